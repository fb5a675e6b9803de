/- What the program's functions do, step by step: part G of the texts for this claim; no condition beyond what each theorem states. -/
import Derived.Deep.Cut
import Derived.Deep.DeepCutAuto
import Derived.Deep.Matrix
import Derived.Lib.SmallJoins
import Derived.SizedLaws
import Derived.Deep.Slices
import Derived.Test.YtdmljilcbndmfaaDoorRbChoBunA
import Derived.Test.YtdmljilcbndmfaaDoorRbChoBunB
import Derived.Test.YtdmljilcbndmfaaDoorRbChoBunC
import Derived.Test.YtdmljilcbndmfaaDoorRbChoBunD
import Derived.Test.YtdmljilcbndmfaaDoorRbChoBunE
import Derived.Test.YtdmljilcbndmfaaDoorRbChoBunF
/- WHAT READS OFF SOME BLOCKS; the drawn region of RebuildChoosesAsSpecified. -/
namespace Go.Proofs.YtdmljilcbndmfaaDoor
open Go.RowKit
/-- What holds wherever the cells outside some blocks are as they are here. -/
def Off (S : Nat → Prop) (Φ : World → Prop) (w : World) : Prop := ∀ w', (∀ (a : Addr) (u : Value), ¬ S a.block → w.cell? a = some u → w'.cell? a = some u) → Φ w'
theorem Off.here {S : Nat → Prop} {Φ : World → Prop} {w : World} (h : Off S Φ w) : Φ w := h w fun _ _ _ e => e
theorem Off.mono {S S' : Nat → Prop} {Φ : World → Prop} {w : World} (h : Off S' Φ w) (hs : ∀ x, S x → S' x) : Off S Φ w := fun w' hk => h w' fun a u hn e => hk a u (fun hx => hn (hs _ hx)) e
theorem Off.next {S : Nat → Prop} {Φ : World → Prop} {w w1 : World} (h : Off S Φ w) (hx : Ext w w1) : Off S Φ w1 := fun w' hk => h w' fun a u hn e => hk a u hn (hx.cell e)
theorem Off.alloc {S S' : Nat → Prop} {Φ : World → Prop} {w : World} (h : Off S Φ w) (o : Obj) (hs : ∀ x, S' x → S x ∨ x = w.heap.size) : Off S' Φ (w.alloc o) := fun w' hk => h w' fun a u hn e => hk a u (fun hx => by
  rcases hs _ hx with h1 | h1
  · exact hn h1
  · have := lt_of_cell e; omega) (((Ext.refl w).alloc o).cell e)
theorem Off.store {S : Nat → Prop} {Φ : World → Prop} {w : World} {g k : Nat} {u : Value} (h : Off S Φ w) (hg : S g) : Off S Φ (w.setCell ⟨g, k, none⟩ u) := fun w' hk => h w' fun a v hn e => hk a v hn (by rw [cell_far _ (fun e2 => hn (by have : a.block = g := e2; rw [this]; exact hg))]; exact e)
/-- Two slices read as a recipe. -/
def RecIs (w : World) (r : Rb.Rec) (F C : Value) : Prop := Rs RI w F r.src ∧ Rs RB w C r.coef
theorem RecIs.off {lo : Nat} {w : World} {r : Rb.Rec} {F C : Value} (h1 : Rs RI w F r.src) (h2 : Rs RB w C r.coef) (hf : ∀ b, F.ownBlock = some b ∨ C.ownBlock = some b → lo ≤ b) : Off (fun x => x < lo) (fun W => RecIs W r F C) w := fun w' hk =>
  ⟨Rs.far (fun _ _ _ _ h => h) h1 fun a u e hv => hk a u (by have := hf _ (.inl e); omega) hv, Rs.far (fun _ _ _ _ h => h) h2 fun a u e hv => hk a u (by have := hf _ (.inr e); omega) hv⟩
theorem RRs.off {lo : Nat} {w : World} {v : Value} {l : List Rb.Rec} (h : RRs w v l) (hn : NewRs lo w v) : Off (fun x => x < lo) (fun W => RRs W v l) w := fun w' hk => by
  obtain ⟨A, c, rfl, hl, hh⟩ := h
  refine ⟨A, c, rfl, hl, fun i r hi => ?_⟩
  obtain ⟨ad, F, C, h1, h2, h3, h4, h5, h6⟩ := hh i r hi
  subst h1
  obtain ⟨n1, n2⟩ := hn ad _ _ rfl
  have hil := (List.getElem?_eq_some_iff.1 hi).1
  have n3 := n2 i hil F C h3 h4
  have hb : ¬ (ad.add (i * 3)).block < lo := by rw [block_add]; omega
  exact ⟨ad, F, C, rfl, hk _ _ hb h2, hk _ _ hb h3, hk _ _ hb h4, Rs.far (fun _ _ _ _ h => h) h5 fun a u e hv => hk a u (by have := n3 _ (.inl e); omega) hv, Rs.far (fun _ _ _ _ h => h) h6 fun a u e hv => hk a u (by have := n3 _ (.inr e); omega) hv⟩
/-- Three blocks, as far as they are there. -/
def SB (p q r : Bool) (g h k : Nat) : Nat → Prop := fun x => (p = true ∧ x = g) ∨ (q = true ∧ x = h) ∨ (r = true ∧ x = k)
theorem Owns.start3 (w : World) : Owns w w.drew [no, no, no] := (Owns.start w (L := [no, no, no]) (by intro r hr; simp at hr; subst hr; exact ⟨rfl, rfl, rfl⟩)).drew
noncomputable def ch6_code : Code := ((Tryd.f3.body.bind (regionOf 6)).getD .skip)
def ch6_dsts : List (Option Nat) := [some 40, some 41, some 42, some 43, some 44, some 45, some 46, some 47, some 48, some 49, some 50, some 13, some 14, some 15, none, none, none]
theorem ch6_apart : apartD ch6_dsts = true := by decide +kernel
set_option maxRecDepth 1000000 in
set_option maxHeartbeats 16000000 in
theorem ch6 (wr : World) (C : Nat) (GA : Option Addr) (ng Gc nA : Nat) (d gl lost piece eB eL : Int) (gs : List (List Int)) (rB rL : Rb.Rec) (lA : List Rb.Rec) (k0 : wr.cell? ⟨C, 0, none⟩ = some (.int .i64 d)) (k1 : wr.cell? ⟨C, 1, none⟩ = some (.slice GA ng Gc)) (k2 : wr.cell? ⟨C, 2, none⟩ = some (.int .i64 gl))
  (HG : Hid (Rs (Rs RI) wr (.slice GA ng Gc) gs ∧ gs.length ≤ 4611686018427387904)) (HE : Hid (Rb.bestR d gl gs lost piece = rB ∧ Rb.leastE d gl gs lost piece = eB ∧ Rb.leastL d gl gs lost piece true = lA ∧ lA.length = nA ∧ Rb.localR d gl gs piece = rL ∧ Rb.localE d gl gs piece = eL)) (c0 c4 c5 c6 c7 c8 c9 c10 c11 c12 c13 c14 c15 c16 c17 c18 c19 c20 c21 c22 c23 c24 c25 c26 c27 c28 c29 c30 c31 c32 c33 c34 c35 c36 c37 c38 c39 c40 c41 c42 c43 c44 c45 c46 c47 c48 c49 c50 c51 c52 c53 c54 c55 c56 c57 c58 c59 c60 c61 c62 c63 c64 c65 c66 c67 c68 c69 c70 c71 c72 c73 c74 c75 c76 c77 c78 c79 c80 c81 c82 c83 c84 c85 c86 c87 : Value) (df : List Deferred) (K : Act → World → Prop)
    (hK : ∀ (FB CB : Value) (VA : Option Addr) (cA : Nat) (FL CL : Value) (gB gA gL : Nat) (u40 u41 u42 u43 u44 u45 u46 u47 u48 u49 u50 : Value) (wx : World), (Owns wr wx [⟨.slice (some ⟨gB, 0, none⟩) 4 4, 39, 1, 4, [.int .i64 rB.piece, FB, CB, .int .i64 eB]⟩, ⟨.slice (some ⟨gA, 0, none⟩) 2 2, 42, 1, 2, [.slice VA nA cA, .int .i64 eB]⟩, ⟨.slice (some ⟨gL, 0, none⟩) 4 4, 39, 1, 4, [.int .i64 rL.piece, FL, CL, .int .i64 eL]⟩] ∧ RecIs wx rB FB CB ∧ RRs wx (.slice VA nA cA) lA ∧ RecIs wx rL FL CL) → K ⟨#[c0, .int .i64 lost, .int .i64 piece, .pointer (some ⟨C, 0, none⟩), c4, c5, c6, c7, c8, c9, c10, c11, c12, .pointer (some ⟨gB, 0, none⟩), .pointer (some ⟨gA, 0, none⟩), .pointer (some ⟨gL, 0, none⟩), c16, c17, c18, c19, c20, c21, c22, c23, c24, c25, c26, c27, c28, c29, c30, c31, c32, c33, c34, c35, c36, c37, c38, c39, u40, u41, u42, u43, u44, u45, u46, u47, u48, u49, u50, c51, c52, c53, c54, c55, c56, c57, c58, c59, c60, c61, c62, c63, c64, c65, c66, c67, c68, c69, c70, c71, c72, c73, c74, c75, c76, c77, c78, c79, c80, c81, c82, c83, c84, c85, c86, c87], df⟩ wx) :
    Code.wp Tryd.prog ch6_code (AtEnd K) ⟨#[c0, .int .i64 lost, .int .i64 piece, .pointer (some ⟨C, 0, none⟩), c4, c5, c6, c7, c8, c9, c10, c11, c12, c13, c14, c15, c16, c17, c18, c19, c20, c21, c22, c23, c24, c25, c26, c27, c28, c29, c30, c31, c32, c33, c34, c35, c36, c37, c38, c39, c40, c41, c42, c43, c44, c45, c46, c47, c48, c49, c50, c51, c52, c53, c54, c55, c56, c57, c58, c59, c60, c61, c62, c63, c64, c65, c66, c67, c68, c69, c70, c71, c72, c73, c74, c75, c76, c77, c78, c79, c80, c81, c82, c83, c84, c85, c86, c87], df⟩ wr := by
  conv => arg 2; whnf
  refine region_inv (by kernel_rfl) [[], [], [], [0, 1, 2], [], [], [], [4, 5, 6, 3], [], [], [8, 9, 7], [], [], [], [11, 3, 10, 0, 1, 2, 3, 11, 12, 13], [12, 7, 14, 0, 1, 2, 3, 4, 5, 6, 7, 11, 12, 13, 14], [13, 10, 15, 0, 1, 2, 3, 4, 5, 6, 7, 8, 9, 10, 11, 12, 13, 14, 15]] (by kernel_rfl) [0, 1, 2, 3, 4, 5, 6, 7, 8, 9, 10, 11, 12, 13, 14, 15, 16] (by decide +kernel) (by decide +kernel) (by decide +kernel) (fun L a wc => ∃ (FB : Value) (CB : Value) (VA : Option Addr) (cA : Nat) (FL : Value) (CL : Value) (gB : Nat) (gA : Nat) (gL : Nat), InvO ch6_dsts [.agg #[.int .i64 d, .slice GA ng Gc, .int .i64 gl], .int .i64 lost, .int .i64 piece, .agg #[.int .i64 rB.piece, FB, CB, .int .i64 eB], .agg #[.int .i64 d, .slice GA ng Gc, .int .i64 gl], .int .i64 lost, .int .i64 piece, .agg #[.slice VA nA cA, .int .i64 eB], .agg #[.int .i64 d, .slice GA ng Gc, .int .i64 gl], .int .i64 piece, .agg #[.int .i64 rL.piece, FL, CL, .int .i64 eL], .pointer (some ⟨gB, 0, none⟩), .pointer (some ⟨gA, 0, none⟩), .pointer (some ⟨gL, 0, none⟩), undef, undef, undef] ⟨#[c0, .int .i64 lost, .int .i64 piece, .pointer (some ⟨C, 0, none⟩), c4, c5, c6, c7, c8, c9, c10, c11, c12, c13, c14, c15, c16, c17, c18, c19, c20, c21, c22, c23, c24, c25, c26, c27, c28, c29, c30, c31, c32, c33, c34, c35, c36, c37, c38, c39, c40, c41, c42, c43, c44, c45, c46, c47, c48, c49, c50, c51, c52, c53, c54, c55, c56, c57, c58, c59, c60, c61, c62, c63, c64, c65, c66, c67, c68, c69, c70, c71, c72, c73, c74, c75, c76, c77, c78, c79, c80, c81, c82, c83, c84, c85, c86, c87], df⟩ L a ∧ Hid (Owns wr wc [(if L 11 = true then (if L 14 = true then ⟨.slice (some ⟨gB, 0, none⟩) 4 4, 39, 1, 4, [.int .i64 rB.piece, FB, CB, .int .i64 eB]⟩ else ⟨.slice (some ⟨gB, 0, none⟩) 4 4, 39, 1, 4, [.int .i64 0, .slice none 0 0, .slice none 0 0, .int .i64 0]⟩) else no), (if L 12 = true then (if L 15 = true then ⟨.slice (some ⟨gA, 0, none⟩) 2 2, 42, 1, 2, [.slice VA nA cA, .int .i64 eB]⟩ else ⟨.slice (some ⟨gA, 0, none⟩) 2 2, 42, 1, 2, [.slice none 0 0, .int .i64 0]⟩) else no), (if L 13 = true then (if L 16 = true then ⟨.slice (some ⟨gL, 0, none⟩) 4 4, 39, 1, 4, [.int .i64 rL.piece, FL, CL, .int .i64 eL]⟩ else ⟨.slice (some ⟨gL, 0, none⟩) 4 4, 39, 1, 4, [.int .i64 0, .slice none 0 0, .slice none 0 0, .int .i64 0]⟩) else no)] ∧ (L 3 = true → Off (SB (L 11) (L 12) (L 13) gB gA gL) (fun W => RecIs W rB FB CB) wc) ∧ (L 7 = true → Off (SB (L 11) (L 12) (L 13) gB gA gL) (fun W => RRs W (.slice VA nA cA) lA) wc) ∧ (L 10 = true → Off (SB (L 11) (L 12) (L 13) gB gA gL) (fun W => RecIs W rL FL CL) wc))) ⟨undef, undef, none, 0, undef, undef, 0, 0, 0, InvO.start, Lib.hid (And.intro (Owns.start3 wr) (And.intro (fun h => by cases h) (And.intro (fun h => by cases h) fun h => by cases h)))⟩ ?_ ?_
  · refine ⟨?_, ?_, ?_, ?_, ?_, ?_, ?_, ?_, ?_, ?_, ?_, ?_, ?_, ?_, ?_, ?_, ?_, trivial⟩
    ·
      rintro L a wc ⟨FB, CB, VA, cA, FL, CL, gB, gA, gL, hv, HO⟩ hL hc hd
      have h0 : wc.cell? ⟨C, 0, none⟩ = some (.int .i64 d) := HO.out.1.ext.cell k0
      have h1 : wc.cell? ⟨C, 1, none⟩ = some (.slice GA ng Gc) := HO.out.1.ext.cell k1
      have h2 : wc.cell? ⟨C, 2, none⟩ = some (.int .i64 gl) := HO.out.1.ext.cell k2
      exact wpOp_val rfl rfl (ex_load rfl ((hv.fixed 3 (by decide)).trans rfl) (by go_simp)) ⟨FB, CB, VA, cA, FL, CL, gB, gA, gL, hv.put ch6_apart 0 rfl (lb rfl) (lb rfl) rfl, HO⟩
    ·
      rintro L a wc ⟨FB, CB, VA, cA, FL, CL, gB, gA, gL, hv, HO⟩ hL hc hd
      exact wpOp_val rfl rfl (ex_move rfl ((hv.fixed 1 (by decide)).trans rfl)) ⟨FB, CB, VA, cA, FL, CL, gB, gA, gL, hv.put ch6_apart 1 rfl (lb rfl) (lb rfl) rfl, HO⟩
    ·
      rintro L a wc ⟨FB, CB, VA, cA, FL, CL, gB, gA, gL, hv, HO⟩ hL hc hd
      exact wpOp_val rfl rfl (ex_move rfl ((hv.fixed 2 (by decide)).trans rfl)) ⟨FB, CB, VA, cA, FL, CL, gB, gA, gL, hv.put ch6_apart 2 rfl (lb rfl) (lb rfl) rfl, HO⟩
    ·
      rintro L a wc ⟨FB, CB, VA, cA, FL, CL, gB, gA, gL, hv, HO⟩ hL hc hd
      have n14 : L 14 = false := Bool.eq_false_iff.2 fun h => Bool.false_ne_true (hL.symm.trans (hc 14 h 3 (by decide)))
      have hlt : ∀ x, SB (L 11) (L 12) (L 13) gB gA gL x → x < wc.heap.size := fun x hx => by rcases hx with ⟨h, rfl⟩ | ⟨h, rfl⟩ | ⟨h, rfl⟩ <;> first | (have h2 := HO.out.1; rw [if_pos (show L 11 = true from h)] at h2; rcases Bool.eq_false_or_eq_true (L 14) with h9 | h9 <;> first | (rw [if_pos h9] at h2; exact ((h2.row 0 rfl).lt _ rfl).2) | (rw [if_neg (show ¬ (L 14 = true) from by simp [h9])] at h2; exact ((h2.row 0 rfl).lt _ rfl).2)) | (have h2 := HO.out.1; rw [if_pos (show L 12 = true from h)] at h2; rcases Bool.eq_false_or_eq_true (L 15) with h9 | h9 <;> first | (rw [if_pos h9] at h2; exact ((h2.row 1 rfl).lt _ rfl).2) | (rw [if_neg (show ¬ (L 15 = true) from by simp [h9])] at h2; exact ((h2.row 1 rfl).lt _ rfl).2)) | (have h2 := HO.out.1; rw [if_pos (show L 13 = true from h)] at h2; rcases Bool.eq_false_or_eq_true (L 16) with h9 | h9 <;> first | (rw [if_pos h9] at h2; exact ((h2.row 2 rfl).lt _ rfl).2) | (rw [if_neg (show ¬ (L 16 = true) from by simp [h9])] at h2; exact ((h2.row 2 rfl).lt _ rfl).2))
      refine wpOp_call (R := fun v w1 => ∃ F C, v = .agg #[.int .i64 rB.piece, F, C, .int .i64 eB] ∧ Off (fun x => x < wc.heap.size) (fun W => RecIs W rB F C) w1 ∧ Ext wc w1) rfl rfl (ex_call rfl rfl (map3c (hv.get 0 rfl rfl (hd 0 (by decide))) (hv.get 1 rfl rfl (hd 1 (by decide))) (hv.get 2 rfl rfl (hd 2 (by decide)))) (enters_of Tryd.func15 (by kernel_rfl) rfl _ _)) ((sBest_any d gl gs lost piece _ wc (Rs.ext (Rs.ext RI.ext) _ _ _ _ HO.out.1.ext HG.out.1) HG.out.2).mono (fun e w' h => by rw [HE.out.1, HE.out.2.1] at h; obtain ⟨F, C, rfl, h1, h2, h3, h4⟩ := h; exact ⟨_, rfl, F, C, rfl, RecIs.off h1 h2 h3, h4⟩)) ?_
      rintro v w' ⟨F2, C2, rfl, hq, hx⟩
      have hO2 : Owns wr w' [(if L 11 = true then (if L 14 = true then ⟨.slice (some ⟨gB, 0, none⟩) 4 4, 39, 1, 4, [.int .i64 rB.piece, F2, C2, .int .i64 eB]⟩ else ⟨.slice (some ⟨gB, 0, none⟩) 4 4, 39, 1, 4, [.int .i64 0, .slice none 0 0, .slice none 0 0, .int .i64 0]⟩) else no), (if L 12 = true then (if L 15 = true then ⟨.slice (some ⟨gA, 0, none⟩) 2 2, 42, 1, 2, [.slice VA nA cA, .int .i64 eB]⟩ else ⟨.slice (some ⟨gA, 0, none⟩) 2 2, 42, 1, 2, [.slice none 0 0, .int .i64 0]⟩) else no), (if L 13 = true then (if L 16 = true then ⟨.slice (some ⟨gL, 0, none⟩) 4 4, 39, 1, 4, [.int .i64 rL.piece, FL, CL, .int .i64 eL]⟩ else ⟨.slice (some ⟨gL, 0, none⟩) 4 4, 39, 1, 4, [.int .i64 0, .slice none 0 0, .slice none 0 0, .int .i64 0]⟩) else no)] := by have h := HO.out.1.next hx; rw [if_neg (show ¬ (L 14 = true) from by simp [n14])] at h ⊢; exact h
      exact ⟨F2, C2, VA, cA, FL, CL, gB, gA, gL, hv.put ch6_apart 3 rfl (lb rfl) (lb rfl) rfl, Lib.hid (And.intro hO2 (And.intro (fun _ => hq.mono hlt) (And.intro (fun h => (HO.out.2.2.1 h).next hx) (fun h => (HO.out.2.2.2 h).next hx))))⟩
    ·
      rintro L a wc ⟨FB, CB, VA, cA, FL, CL, gB, gA, gL, hv, HO⟩ hL hc hd
      have h0 : wc.cell? ⟨C, 0, none⟩ = some (.int .i64 d) := HO.out.1.ext.cell k0
      have h1 : wc.cell? ⟨C, 1, none⟩ = some (.slice GA ng Gc) := HO.out.1.ext.cell k1
      have h2 : wc.cell? ⟨C, 2, none⟩ = some (.int .i64 gl) := HO.out.1.ext.cell k2
      exact wpOp_val rfl rfl (ex_load rfl ((hv.fixed 3 (by decide)).trans rfl) (by go_simp)) ⟨FB, CB, VA, cA, FL, CL, gB, gA, gL, hv.put ch6_apart 4 rfl (lb rfl) (lb rfl) rfl, HO⟩
    ·
      rintro L a wc ⟨FB, CB, VA, cA, FL, CL, gB, gA, gL, hv, HO⟩ hL hc hd
      exact wpOp_val rfl rfl (ex_move rfl ((hv.fixed 1 (by decide)).trans rfl)) ⟨FB, CB, VA, cA, FL, CL, gB, gA, gL, hv.put ch6_apart 5 rfl (lb rfl) (lb rfl) rfl, HO⟩
    ·
      rintro L a wc ⟨FB, CB, VA, cA, FL, CL, gB, gA, gL, hv, HO⟩ hL hc hd
      exact wpOp_val rfl rfl (ex_move rfl ((hv.fixed 2 (by decide)).trans rfl)) ⟨FB, CB, VA, cA, FL, CL, gB, gA, gL, hv.put ch6_apart 6 rfl (lb rfl) (lb rfl) rfl, HO⟩
    ·
      rintro L a wc ⟨FB, CB, VA, cA, FL, CL, gB, gA, gL, hv, HO⟩ hL hc hd
      have n15 : L 15 = false := Bool.eq_false_iff.2 fun h => Bool.false_ne_true (hL.symm.trans (hc 15 h 7 (by decide)))
      have hlt : ∀ x, SB (L 11) (L 12) (L 13) gB gA gL x → x < wc.heap.size := fun x hx => by rcases hx with ⟨h, rfl⟩ | ⟨h, rfl⟩ | ⟨h, rfl⟩ <;> first | (have h2 := HO.out.1; rw [if_pos (show L 11 = true from h)] at h2; rcases Bool.eq_false_or_eq_true (L 14) with h9 | h9 <;> first | (rw [if_pos h9] at h2; exact ((h2.row 0 rfl).lt _ rfl).2) | (rw [if_neg (show ¬ (L 14 = true) from by simp [h9])] at h2; exact ((h2.row 0 rfl).lt _ rfl).2)) | (have h2 := HO.out.1; rw [if_pos (show L 12 = true from h)] at h2; rcases Bool.eq_false_or_eq_true (L 15) with h9 | h9 <;> first | (rw [if_pos h9] at h2; exact ((h2.row 1 rfl).lt _ rfl).2) | (rw [if_neg (show ¬ (L 15 = true) from by simp [h9])] at h2; exact ((h2.row 1 rfl).lt _ rfl).2)) | (have h2 := HO.out.1; rw [if_pos (show L 13 = true from h)] at h2; rcases Bool.eq_false_or_eq_true (L 16) with h9 | h9 <;> first | (rw [if_pos h9] at h2; exact ((h2.row 2 rfl).lt _ rfl).2) | (rw [if_neg (show ¬ (L 16 = true) from by simp [h9])] at h2; exact ((h2.row 2 rfl).lt _ rfl).2))
      refine wpOp_call (R := fun v w1 => ∃ A c, v = .agg #[.slice A nA c, .int .i64 eB] ∧ Off (fun x => x < wc.heap.size) (fun W => RRs W (.slice A nA c) lA) w1 ∧ Ext wc w1) rfl rfl (ex_call rfl rfl (map3c (hv.get 4 rfl rfl (hd 4 (by decide))) (hv.get 5 rfl rfl (hd 5 (by decide))) (hv.get 6 rfl rfl (hd 6 (by decide)))) (enters_of Tryd.func16 (by kernel_rfl) rfl _ _)) ((sAll_any d gl gs lost piece _ wc (Rs.ext (Rs.ext RI.ext) _ _ _ _ HO.out.1.ext HG.out.1) HG.out.2).mono (fun e w' h => by rw [HE.out.2.2.1, HE.out.2.1] at h; obtain ⟨v, rfl, h1, h2, h3⟩ := h; obtain ⟨A, c, rfl, _⟩ := h1.form; rw [HE.out.2.2.2.1] at h1 h2 ⊢; exact ⟨_, rfl, A, c, rfl, RRs.off h1 h2, h3⟩)) ?_
      rintro v w' ⟨V2, c2, rfl, hq, hx⟩
      have hO2 : Owns wr w' [(if L 11 = true then (if L 14 = true then ⟨.slice (some ⟨gB, 0, none⟩) 4 4, 39, 1, 4, [.int .i64 rB.piece, FB, CB, .int .i64 eB]⟩ else ⟨.slice (some ⟨gB, 0, none⟩) 4 4, 39, 1, 4, [.int .i64 0, .slice none 0 0, .slice none 0 0, .int .i64 0]⟩) else no), (if L 12 = true then (if L 15 = true then ⟨.slice (some ⟨gA, 0, none⟩) 2 2, 42, 1, 2, [.slice V2 nA c2, .int .i64 eB]⟩ else ⟨.slice (some ⟨gA, 0, none⟩) 2 2, 42, 1, 2, [.slice none 0 0, .int .i64 0]⟩) else no), (if L 13 = true then (if L 16 = true then ⟨.slice (some ⟨gL, 0, none⟩) 4 4, 39, 1, 4, [.int .i64 rL.piece, FL, CL, .int .i64 eL]⟩ else ⟨.slice (some ⟨gL, 0, none⟩) 4 4, 39, 1, 4, [.int .i64 0, .slice none 0 0, .slice none 0 0, .int .i64 0]⟩) else no)] := by have h := HO.out.1.next hx; rw [if_neg (show ¬ (L 15 = true) from by simp [n15])] at h ⊢; exact h
      exact ⟨FB, CB, V2, c2, FL, CL, gB, gA, gL, hv.put ch6_apart 7 rfl (lb rfl) (lb rfl) rfl, Lib.hid (And.intro hO2 (And.intro (fun h => (HO.out.2.1 h).next hx) (And.intro (fun _ => hq.mono hlt) (fun h => (HO.out.2.2.2 h).next hx))))⟩
    ·
      rintro L a wc ⟨FB, CB, VA, cA, FL, CL, gB, gA, gL, hv, HO⟩ hL hc hd
      have h0 : wc.cell? ⟨C, 0, none⟩ = some (.int .i64 d) := HO.out.1.ext.cell k0
      have h1 : wc.cell? ⟨C, 1, none⟩ = some (.slice GA ng Gc) := HO.out.1.ext.cell k1
      have h2 : wc.cell? ⟨C, 2, none⟩ = some (.int .i64 gl) := HO.out.1.ext.cell k2
      exact wpOp_val rfl rfl (ex_load rfl ((hv.fixed 3 (by decide)).trans rfl) (by go_simp)) ⟨FB, CB, VA, cA, FL, CL, gB, gA, gL, hv.put ch6_apart 8 rfl (lb rfl) (lb rfl) rfl, HO⟩
    ·
      rintro L a wc ⟨FB, CB, VA, cA, FL, CL, gB, gA, gL, hv, HO⟩ hL hc hd
      exact wpOp_val rfl rfl (ex_move rfl ((hv.fixed 2 (by decide)).trans rfl)) ⟨FB, CB, VA, cA, FL, CL, gB, gA, gL, hv.put ch6_apart 9 rfl (lb rfl) (lb rfl) rfl, HO⟩
    ·
      rintro L a wc ⟨FB, CB, VA, cA, FL, CL, gB, gA, gL, hv, HO⟩ hL hc hd
      have n16 : L 16 = false := Bool.eq_false_iff.2 fun h => Bool.false_ne_true (hL.symm.trans (hc 16 h 10 (by decide)))
      have hlt : ∀ x, SB (L 11) (L 12) (L 13) gB gA gL x → x < wc.heap.size := fun x hx => by rcases hx with ⟨h, rfl⟩ | ⟨h, rfl⟩ | ⟨h, rfl⟩ <;> first | (have h2 := HO.out.1; rw [if_pos (show L 11 = true from h)] at h2; rcases Bool.eq_false_or_eq_true (L 14) with h9 | h9 <;> first | (rw [if_pos h9] at h2; exact ((h2.row 0 rfl).lt _ rfl).2) | (rw [if_neg (show ¬ (L 14 = true) from by simp [h9])] at h2; exact ((h2.row 0 rfl).lt _ rfl).2)) | (have h2 := HO.out.1; rw [if_pos (show L 12 = true from h)] at h2; rcases Bool.eq_false_or_eq_true (L 15) with h9 | h9 <;> first | (rw [if_pos h9] at h2; exact ((h2.row 1 rfl).lt _ rfl).2) | (rw [if_neg (show ¬ (L 15 = true) from by simp [h9])] at h2; exact ((h2.row 1 rfl).lt _ rfl).2)) | (have h2 := HO.out.1; rw [if_pos (show L 13 = true from h)] at h2; rcases Bool.eq_false_or_eq_true (L 16) with h9 | h9 <;> first | (rw [if_pos h9] at h2; exact ((h2.row 2 rfl).lt _ rfl).2) | (rw [if_neg (show ¬ (L 16 = true) from by simp [h9])] at h2; exact ((h2.row 2 rfl).lt _ rfl).2))
      refine wpOp_call (R := fun v w1 => ∃ F C, v = .agg #[.int .i64 rL.piece, F, C, .int .i64 eL] ∧ Off (fun x => x < wc.heap.size) (fun W => RecIs W rL F C) w1 ∧ Ext wc w1) rfl rfl (ex_call rfl rfl (map2c (hv.get 8 rfl rfl (hd 8 (by decide))) (hv.get 9 rfl rfl (hd 9 (by decide)))) (enters_of Tryd.func17 (by kernel_rfl) rfl _ _)) ((sLocal_any d gl gs piece _ wc (Rs.ext (Rs.ext RI.ext) _ _ _ _ HO.out.1.ext HG.out.1) HG.out.2).mono (fun e w' h => by rw [HE.out.2.2.2.2.1, HE.out.2.2.2.2.2] at h; obtain ⟨F, C, rfl, h1, h2, h3, h4⟩ := h; exact ⟨_, rfl, F, C, rfl, RecIs.off h1 h2 h3, h4⟩)) ?_
      rintro v w' ⟨F2, C2, rfl, hq, hx⟩
      have hO2 : Owns wr w' [(if L 11 = true then (if L 14 = true then ⟨.slice (some ⟨gB, 0, none⟩) 4 4, 39, 1, 4, [.int .i64 rB.piece, FB, CB, .int .i64 eB]⟩ else ⟨.slice (some ⟨gB, 0, none⟩) 4 4, 39, 1, 4, [.int .i64 0, .slice none 0 0, .slice none 0 0, .int .i64 0]⟩) else no), (if L 12 = true then (if L 15 = true then ⟨.slice (some ⟨gA, 0, none⟩) 2 2, 42, 1, 2, [.slice VA nA cA, .int .i64 eB]⟩ else ⟨.slice (some ⟨gA, 0, none⟩) 2 2, 42, 1, 2, [.slice none 0 0, .int .i64 0]⟩) else no), (if L 13 = true then (if L 16 = true then ⟨.slice (some ⟨gL, 0, none⟩) 4 4, 39, 1, 4, [.int .i64 rL.piece, F2, C2, .int .i64 eL]⟩ else ⟨.slice (some ⟨gL, 0, none⟩) 4 4, 39, 1, 4, [.int .i64 0, .slice none 0 0, .slice none 0 0, .int .i64 0]⟩) else no)] := by have h := HO.out.1.next hx; rw [if_neg (show ¬ (L 16 = true) from by simp [n16])] at h ⊢; exact h
      exact ⟨FB, CB, VA, cA, F2, C2, gB, gA, gL, hv.put ch6_apart 10 rfl (lb rfl) (lb rfl) rfl, Lib.hid (And.intro hO2 (And.intro (fun h => (HO.out.2.1 h).next hx) (And.intro (fun h => (HO.out.2.2.1 h).next hx) (fun _ => hq.mono hlt))))⟩
    ·
      rintro L a wc ⟨FB, CB, VA, cA, FL, CL, gB, gA, gL, hv, HO⟩ hL hc hd
      have n14 : L 14 = false := Bool.eq_false_iff.2 fun h => Bool.false_ne_true (hL.symm.trans (hc 14 h 11 (by decide)))
      have h := HO.out.1
      rw [if_neg (show ¬ (L 11 = true) from by simp [hL])] at h
      have h2 := h.new 0 #[.int .i64 0, .slice none 0 0, .slice none 0 0, .int .i64 0] 39 (by simp [maxLen])
      have hA : (Instr.alloc 39 true (.tuple #[])).run Tryd.prog wc = .ok (.pointer (some ⟨wc.heap.size, 0, none⟩)) (wc.alloc (.cells #[.int .i64 0, .slice none 0 0, .slice none 0 0, .int .i64 0] 39)) := by go_simp
      have h3 : Owns wr (wc.alloc (.cells #[.int .i64 0, .slice none 0 0, .slice none 0 0, .int .i64 0] 39)) [(if upd L 11 11 = true then (if upd L 11 14 = true then ⟨.slice (some ⟨wc.heap.size, 0, none⟩) 4 4, 39, 1, 4, [.int .i64 rB.piece, FB, CB, .int .i64 eB]⟩ else ⟨.slice (some ⟨wc.heap.size, 0, none⟩) 4 4, 39, 1, 4, [.int .i64 0, .slice none 0 0, .slice none 0 0, .int .i64 0]⟩) else no), (if L 12 = true then (if L 15 = true then ⟨.slice (some ⟨gA, 0, none⟩) 2 2, 42, 1, 2, [.slice VA nA cA, .int .i64 eB]⟩ else ⟨.slice (some ⟨gA, 0, none⟩) 2 2, 42, 1, 2, [.slice none 0 0, .int .i64 0]⟩) else no), (if L 13 = true then (if L 16 = true then ⟨.slice (some ⟨gL, 0, none⟩) 4 4, 39, 1, 4, [.int .i64 rL.piece, FL, CL, .int .i64 eL]⟩ else ⟨.slice (some ⟨gL, 0, none⟩) 4 4, 39, 1, 4, [.int .i64 0, .slice none 0 0, .slice none 0 0, .int .i64 0]⟩) else no)] := by rw [if_pos (show upd L 11 11 = true from by simp [upd]), if_neg (show ¬ (upd L 11 14 = true) from by simp [upd, n14])]; exact h2
      exact wpOp_value rfl rfl (ex_alloc rfl hA) ⟨FB, CB, VA, cA, FL, CL, wc.heap.size, gA, gL, hv.put ch6_apart 11 rfl (lb rfl) (lb rfl) rfl, Lib.hid (And.intro h3 (And.intro (fun h => (HO.out.2.1 h).alloc _ (fun x hx => by rcases hx with ⟨h, h'⟩ | ⟨h, h'⟩ | ⟨h, h'⟩ <;> first | exact Or.inr h' | exact Or.inl (Or.inl ⟨h, h'⟩) | exact Or.inl (Or.inr (Or.inl ⟨h, h'⟩)) | exact Or.inl (Or.inr (Or.inr ⟨h, h'⟩)))) (And.intro (fun h => (HO.out.2.2.1 h).alloc _ (fun x hx => by rcases hx with ⟨h, h'⟩ | ⟨h, h'⟩ | ⟨h, h'⟩ <;> first | exact Or.inr h' | exact Or.inl (Or.inl ⟨h, h'⟩) | exact Or.inl (Or.inr (Or.inl ⟨h, h'⟩)) | exact Or.inl (Or.inr (Or.inr ⟨h, h'⟩)))) (fun h => (HO.out.2.2.2 h).alloc _ (fun x hx => by rcases hx with ⟨h, h'⟩ | ⟨h, h'⟩ | ⟨h, h'⟩ <;> first | exact Or.inr h' | exact Or.inl (Or.inl ⟨h, h'⟩) | exact Or.inl (Or.inr (Or.inl ⟨h, h'⟩)) | exact Or.inl (Or.inr (Or.inr ⟨h, h'⟩)))))))⟩
    ·
      rintro L a wc ⟨FB, CB, VA, cA, FL, CL, gB, gA, gL, hv, HO⟩ hL hc hd
      have n15 : L 15 = false := Bool.eq_false_iff.2 fun h => Bool.false_ne_true (hL.symm.trans (hc 15 h 12 (by decide)))
      have h := HO.out.1
      rw [if_neg (show ¬ (L 12 = true) from by simp [hL])] at h
      have h2 := h.new 1 #[.slice none 0 0, .int .i64 0] 42 (by simp [maxLen])
      have hA : (Instr.alloc 42 true (.tuple #[])).run Tryd.prog wc = .ok (.pointer (some ⟨wc.heap.size, 0, none⟩)) (wc.alloc (.cells #[.slice none 0 0, .int .i64 0] 42)) := by go_simp
      have h3 : Owns wr (wc.alloc (.cells #[.slice none 0 0, .int .i64 0] 42)) [(if L 11 = true then (if L 14 = true then ⟨.slice (some ⟨gB, 0, none⟩) 4 4, 39, 1, 4, [.int .i64 rB.piece, FB, CB, .int .i64 eB]⟩ else ⟨.slice (some ⟨gB, 0, none⟩) 4 4, 39, 1, 4, [.int .i64 0, .slice none 0 0, .slice none 0 0, .int .i64 0]⟩) else no), (if upd L 12 12 = true then (if upd L 12 15 = true then ⟨.slice (some ⟨wc.heap.size, 0, none⟩) 2 2, 42, 1, 2, [.slice VA nA cA, .int .i64 eB]⟩ else ⟨.slice (some ⟨wc.heap.size, 0, none⟩) 2 2, 42, 1, 2, [.slice none 0 0, .int .i64 0]⟩) else no), (if L 13 = true then (if L 16 = true then ⟨.slice (some ⟨gL, 0, none⟩) 4 4, 39, 1, 4, [.int .i64 rL.piece, FL, CL, .int .i64 eL]⟩ else ⟨.slice (some ⟨gL, 0, none⟩) 4 4, 39, 1, 4, [.int .i64 0, .slice none 0 0, .slice none 0 0, .int .i64 0]⟩) else no)] := by rw [if_pos (show upd L 12 12 = true from by simp [upd]), if_neg (show ¬ (upd L 12 15 = true) from by simp [upd, n15])]; exact h2
      exact wpOp_value rfl rfl (ex_alloc rfl hA) ⟨FB, CB, VA, cA, FL, CL, gB, wc.heap.size, gL, hv.put ch6_apart 12 rfl (lb rfl) (lb rfl) rfl, Lib.hid (And.intro h3 (And.intro (fun h => (HO.out.2.1 h).alloc _ (fun x hx => by rcases hx with ⟨h, h'⟩ | ⟨h, h'⟩ | ⟨h, h'⟩ <;> first | exact Or.inr h' | exact Or.inl (Or.inl ⟨h, h'⟩) | exact Or.inl (Or.inr (Or.inl ⟨h, h'⟩)) | exact Or.inl (Or.inr (Or.inr ⟨h, h'⟩)))) (And.intro (fun h => (HO.out.2.2.1 h).alloc _ (fun x hx => by rcases hx with ⟨h, h'⟩ | ⟨h, h'⟩ | ⟨h, h'⟩ <;> first | exact Or.inr h' | exact Or.inl (Or.inl ⟨h, h'⟩) | exact Or.inl (Or.inr (Or.inl ⟨h, h'⟩)) | exact Or.inl (Or.inr (Or.inr ⟨h, h'⟩)))) (fun h => (HO.out.2.2.2 h).alloc _ (fun x hx => by rcases hx with ⟨h, h'⟩ | ⟨h, h'⟩ | ⟨h, h'⟩ <;> first | exact Or.inr h' | exact Or.inl (Or.inl ⟨h, h'⟩) | exact Or.inl (Or.inr (Or.inl ⟨h, h'⟩)) | exact Or.inl (Or.inr (Or.inr ⟨h, h'⟩)))))))⟩
    ·
      rintro L a wc ⟨FB, CB, VA, cA, FL, CL, gB, gA, gL, hv, HO⟩ hL hc hd
      have n16 : L 16 = false := Bool.eq_false_iff.2 fun h => Bool.false_ne_true (hL.symm.trans (hc 16 h 13 (by decide)))
      have h := HO.out.1
      rw [if_neg (show ¬ (L 13 = true) from by simp [hL])] at h
      have h2 := h.new 2 #[.int .i64 0, .slice none 0 0, .slice none 0 0, .int .i64 0] 39 (by simp [maxLen])
      have hA : (Instr.alloc 39 true (.tuple #[])).run Tryd.prog wc = .ok (.pointer (some ⟨wc.heap.size, 0, none⟩)) (wc.alloc (.cells #[.int .i64 0, .slice none 0 0, .slice none 0 0, .int .i64 0] 39)) := by go_simp
      have h3 : Owns wr (wc.alloc (.cells #[.int .i64 0, .slice none 0 0, .slice none 0 0, .int .i64 0] 39)) [(if L 11 = true then (if L 14 = true then ⟨.slice (some ⟨gB, 0, none⟩) 4 4, 39, 1, 4, [.int .i64 rB.piece, FB, CB, .int .i64 eB]⟩ else ⟨.slice (some ⟨gB, 0, none⟩) 4 4, 39, 1, 4, [.int .i64 0, .slice none 0 0, .slice none 0 0, .int .i64 0]⟩) else no), (if L 12 = true then (if L 15 = true then ⟨.slice (some ⟨gA, 0, none⟩) 2 2, 42, 1, 2, [.slice VA nA cA, .int .i64 eB]⟩ else ⟨.slice (some ⟨gA, 0, none⟩) 2 2, 42, 1, 2, [.slice none 0 0, .int .i64 0]⟩) else no), (if upd L 13 13 = true then (if upd L 13 16 = true then ⟨.slice (some ⟨wc.heap.size, 0, none⟩) 4 4, 39, 1, 4, [.int .i64 rL.piece, FL, CL, .int .i64 eL]⟩ else ⟨.slice (some ⟨wc.heap.size, 0, none⟩) 4 4, 39, 1, 4, [.int .i64 0, .slice none 0 0, .slice none 0 0, .int .i64 0]⟩) else no)] := by rw [if_pos (show upd L 13 13 = true from by simp [upd]), if_neg (show ¬ (upd L 13 16 = true) from by simp [upd, n16])]; exact h2
      exact wpOp_value rfl rfl (ex_alloc rfl hA) ⟨FB, CB, VA, cA, FL, CL, gB, gA, wc.heap.size, hv.put ch6_apart 13 rfl (lb rfl) (lb rfl) rfl, Lib.hid (And.intro h3 (And.intro (fun h => (HO.out.2.1 h).alloc _ (fun x hx => by rcases hx with ⟨h, h'⟩ | ⟨h, h'⟩ | ⟨h, h'⟩ <;> first | exact Or.inr h' | exact Or.inl (Or.inl ⟨h, h'⟩) | exact Or.inl (Or.inr (Or.inl ⟨h, h'⟩)) | exact Or.inl (Or.inr (Or.inr ⟨h, h'⟩)))) (And.intro (fun h => (HO.out.2.2.1 h).alloc _ (fun x hx => by rcases hx with ⟨h, h'⟩ | ⟨h, h'⟩ | ⟨h, h'⟩ <;> first | exact Or.inr h' | exact Or.inl (Or.inl ⟨h, h'⟩) | exact Or.inl (Or.inr (Or.inl ⟨h, h'⟩)) | exact Or.inl (Or.inr (Or.inr ⟨h, h'⟩)))) (fun h => (HO.out.2.2.2 h).alloc _ (fun x hx => by rcases hx with ⟨h, h'⟩ | ⟨h, h'⟩ | ⟨h, h'⟩ <;> first | exact Or.inr h' | exact Or.inl (Or.inl ⟨h, h'⟩) | exact Or.inl (Or.inr (Or.inl ⟨h, h'⟩)) | exact Or.inl (Or.inr (Or.inr ⟨h, h'⟩)))))))⟩
    ·
      rintro L a wc ⟨FB, CB, VA, cA, FL, CL, gB, gA, gL, hv, HO⟩ hL hc hd
      have h11 : L 11 = true := hd 11 (by decide)
      have h3 : L 3 = true := hd 3 (by decide)
      have h := HO.out.1
      rw [if_pos h11, if_neg (show ¬ (L 14 = true) from by simp [hL])] at h
      have e0 := h.cell 0 rfl 0 rfl
      have e1 := h.cell 0 rfl 1 rfl
      have e2 := h.cell 0 rfl 2 rfl
      have e3 := h.cell 0 rfl 3 rfl
      have f0 : wc.frozen? ⟨gB, 0, none⟩ = false := h.frozen 0 rfl 0
      have f1 : wc.frozen? ⟨gB, 1, none⟩ = false := h.frozen 0 rfl 1
      have f2 : wc.frozen? ⟨gB, 2, none⟩ = false := h.frozen 0 rfl 2
      have f3 : wc.frozen? ⟨gB, 3, none⟩ = false := h.frozen 0 rfl 3
      have hS : SB (L 11) (L 12) (L 13) gB gA gL gB := Or.inl ⟨h11, rfl⟩
      have hOw : Owns wr ((((wc.setCell ⟨gB, 0, none⟩ (.int .i64 rB.piece)).setCell ⟨gB, 1, none⟩ (FB)).setCell ⟨gB, 2, none⟩ (CB)).setCell ⟨gB, 3, none⟩ (.int .i64 eB)) [(if upd L 14 11 = true then (if upd L 14 14 = true then ⟨.slice (some ⟨gB, 0, none⟩) 4 4, 39, 1, 4, [.int .i64 rB.piece, FB, CB, .int .i64 eB]⟩ else ⟨.slice (some ⟨gB, 0, none⟩) 4 4, 39, 1, 4, [.int .i64 0, .slice none 0 0, .slice none 0 0, .int .i64 0]⟩) else no), (if L 12 = true then (if L 15 = true then ⟨.slice (some ⟨gA, 0, none⟩) 2 2, 42, 1, 2, [.slice VA nA cA, .int .i64 eB]⟩ else ⟨.slice (some ⟨gA, 0, none⟩) 2 2, 42, 1, 2, [.slice none 0 0, .int .i64 0]⟩) else no), (if L 13 = true then (if L 16 = true then ⟨.slice (some ⟨gL, 0, none⟩) 4 4, 39, 1, 4, [.int .i64 rL.piece, FL, CL, .int .i64 eL]⟩ else ⟨.slice (some ⟨gL, 0, none⟩) 4 4, 39, 1, 4, [.int .i64 0, .slice none 0 0, .slice none 0 0, .int .i64 0]⟩) else no)] := by rw [if_pos (show upd L 14 11 = true from by simp [upd, h11]), if_pos (show upd L 14 14 = true from by simp [upd])]; exact ((((h.store 0 rfl 0 (.int .i64 rB.piece)).store 0 rfl 1 (FB)).store 0 rfl 2 (CB)).store 0 rfl 3 (.int .i64 eB))
      obtain ⟨FA, fc, hFv, _⟩ := (HO.out.2.1 h3).here.1.form
      obtain ⟨CA, cc, hCv, _⟩ := (HO.out.2.1 h3).here.2.form
      exact wpOp_skip rfl rfl rfl (ex_store (w' := ((((wc.setCell ⟨gB, 0, none⟩ (.int .i64 rB.piece)).setCell ⟨gB, 1, none⟩ (FB)).setCell ⟨gB, 2, none⟩ (CB)).setCell ⟨gB, 3, none⟩ (.int .i64 eB))) rfl (hv.get 11 rfl rfl h11) (hv.get 3 rfl rfl h3) (by rw [hFv, hCv]; go_simp)) ⟨FB, CB, VA, cA, FL, CL, gB, gA, gL, hv.skip 14 rfl, Lib.hid (And.intro hOw (And.intro (fun h => (((((HO.out.2.1 h).store hS).store hS).store hS).store hS)) (And.intro (fun h => (((((HO.out.2.2.1 h).store hS).store hS).store hS).store hS)) (fun h => (((((HO.out.2.2.2 h).store hS).store hS).store hS).store hS)))))⟩
    ·
      rintro L a wc ⟨FB, CB, VA, cA, FL, CL, gB, gA, gL, hv, HO⟩ hL hc hd
      have h12 : L 12 = true := hd 12 (by decide)
      have h7 : L 7 = true := hd 7 (by decide)
      have h := HO.out.1
      rw [if_pos h12, if_neg (show ¬ (L 15 = true) from by simp [hL])] at h
      have e0 := h.cell 1 rfl 0 rfl
      have e1 := h.cell 1 rfl 1 rfl
      have f0 : wc.frozen? ⟨gA, 0, none⟩ = false := h.frozen 1 rfl 0
      have f1 : wc.frozen? ⟨gA, 1, none⟩ = false := h.frozen 1 rfl 1
      have hS : SB (L 11) (L 12) (L 13) gB gA gL gA := Or.inr (Or.inl ⟨h12, rfl⟩)
      have hOw : Owns wr ((wc.setCell ⟨gA, 0, none⟩ (.slice VA nA cA)).setCell ⟨gA, 1, none⟩ (.int .i64 eB)) [(if L 11 = true then (if L 14 = true then ⟨.slice (some ⟨gB, 0, none⟩) 4 4, 39, 1, 4, [.int .i64 rB.piece, FB, CB, .int .i64 eB]⟩ else ⟨.slice (some ⟨gB, 0, none⟩) 4 4, 39, 1, 4, [.int .i64 0, .slice none 0 0, .slice none 0 0, .int .i64 0]⟩) else no), (if upd L 15 12 = true then (if upd L 15 15 = true then ⟨.slice (some ⟨gA, 0, none⟩) 2 2, 42, 1, 2, [.slice VA nA cA, .int .i64 eB]⟩ else ⟨.slice (some ⟨gA, 0, none⟩) 2 2, 42, 1, 2, [.slice none 0 0, .int .i64 0]⟩) else no), (if L 13 = true then (if L 16 = true then ⟨.slice (some ⟨gL, 0, none⟩) 4 4, 39, 1, 4, [.int .i64 rL.piece, FL, CL, .int .i64 eL]⟩ else ⟨.slice (some ⟨gL, 0, none⟩) 4 4, 39, 1, 4, [.int .i64 0, .slice none 0 0, .slice none 0 0, .int .i64 0]⟩) else no)] := by rw [if_pos (show upd L 15 12 = true from by simp [upd, h12]), if_pos (show upd L 15 15 = true from by simp [upd])]; exact ((h.store 1 rfl 0 (.slice VA nA cA)).store 1 rfl 1 (.int .i64 eB))
      exact wpOp_skip rfl rfl rfl (ex_store (w' := ((wc.setCell ⟨gA, 0, none⟩ (.slice VA nA cA)).setCell ⟨gA, 1, none⟩ (.int .i64 eB))) rfl (hv.get 12 rfl rfl h12) (hv.get 7 rfl rfl h7) (by go_simp)) ⟨FB, CB, VA, cA, FL, CL, gB, gA, gL, hv.skip 15 rfl, Lib.hid (And.intro hOw (And.intro (fun h => (((HO.out.2.1 h).store hS).store hS)) (And.intro (fun h => (((HO.out.2.2.1 h).store hS).store hS)) (fun h => (((HO.out.2.2.2 h).store hS).store hS)))))⟩
    ·
      rintro L a wc ⟨FB, CB, VA, cA, FL, CL, gB, gA, gL, hv, HO⟩ hL hc hd
      have h13 : L 13 = true := hd 13 (by decide)
      have h10 : L 10 = true := hd 10 (by decide)
      have h := HO.out.1
      rw [if_pos h13, if_neg (show ¬ (L 16 = true) from by simp [hL])] at h
      have e0 := h.cell 2 rfl 0 rfl
      have e1 := h.cell 2 rfl 1 rfl
      have e2 := h.cell 2 rfl 2 rfl
      have e3 := h.cell 2 rfl 3 rfl
      have f0 : wc.frozen? ⟨gL, 0, none⟩ = false := h.frozen 2 rfl 0
      have f1 : wc.frozen? ⟨gL, 1, none⟩ = false := h.frozen 2 rfl 1
      have f2 : wc.frozen? ⟨gL, 2, none⟩ = false := h.frozen 2 rfl 2
      have f3 : wc.frozen? ⟨gL, 3, none⟩ = false := h.frozen 2 rfl 3
      have hS : SB (L 11) (L 12) (L 13) gB gA gL gL := Or.inr (Or.inr ⟨h13, rfl⟩)
      have hOw : Owns wr ((((wc.setCell ⟨gL, 0, none⟩ (.int .i64 rL.piece)).setCell ⟨gL, 1, none⟩ (FL)).setCell ⟨gL, 2, none⟩ (CL)).setCell ⟨gL, 3, none⟩ (.int .i64 eL)) [(if L 11 = true then (if L 14 = true then ⟨.slice (some ⟨gB, 0, none⟩) 4 4, 39, 1, 4, [.int .i64 rB.piece, FB, CB, .int .i64 eB]⟩ else ⟨.slice (some ⟨gB, 0, none⟩) 4 4, 39, 1, 4, [.int .i64 0, .slice none 0 0, .slice none 0 0, .int .i64 0]⟩) else no), (if L 12 = true then (if L 15 = true then ⟨.slice (some ⟨gA, 0, none⟩) 2 2, 42, 1, 2, [.slice VA nA cA, .int .i64 eB]⟩ else ⟨.slice (some ⟨gA, 0, none⟩) 2 2, 42, 1, 2, [.slice none 0 0, .int .i64 0]⟩) else no), (if upd L 16 13 = true then (if upd L 16 16 = true then ⟨.slice (some ⟨gL, 0, none⟩) 4 4, 39, 1, 4, [.int .i64 rL.piece, FL, CL, .int .i64 eL]⟩ else ⟨.slice (some ⟨gL, 0, none⟩) 4 4, 39, 1, 4, [.int .i64 0, .slice none 0 0, .slice none 0 0, .int .i64 0]⟩) else no)] := by rw [if_pos (show upd L 16 13 = true from by simp [upd, h13]), if_pos (show upd L 16 16 = true from by simp [upd])]; exact ((((h.store 2 rfl 0 (.int .i64 rL.piece)).store 2 rfl 1 (FL)).store 2 rfl 2 (CL)).store 2 rfl 3 (.int .i64 eL))
      obtain ⟨FA, fc, hFv, _⟩ := (HO.out.2.2.2 h10).here.1.form
      obtain ⟨CA, cc, hCv, _⟩ := (HO.out.2.2.2 h10).here.2.form
      exact wpOp_skip rfl rfl rfl (ex_store (w' := ((((wc.setCell ⟨gL, 0, none⟩ (.int .i64 rL.piece)).setCell ⟨gL, 1, none⟩ (FL)).setCell ⟨gL, 2, none⟩ (CL)).setCell ⟨gL, 3, none⟩ (.int .i64 eL))) rfl (hv.get 13 rfl rfl h13) (hv.get 10 rfl rfl h10) (by rw [hFv, hCv]; go_simp)) ⟨FB, CB, VA, cA, FL, CL, gB, gA, gL, hv.skip 16 rfl, Lib.hid (And.intro hOw (And.intro (fun h => (((((HO.out.2.1 h).store hS).store hS).store hS).store hS)) (And.intro (fun h => (((((HO.out.2.2.1 h).store hS).store hS).store hS).store hS)) (fun h => (((((HO.out.2.2.2 h).store hS).store hS).store hS).store hS)))))⟩
  · rintro L a wc ⟨FB, CB, VA, cA, FL, CL, gB, gA, gL, hv, HO⟩ hall
    show K a wc
    have ha := act_lit a
    rw [hv.size, hv.defers] at ha
    have hl : ∀ f : Nat → Value, ((List.range (⟨#[c0, .int .i64 lost, .int .i64 piece, .pointer (some ⟨C, 0, none⟩), c4, c5, c6, c7, c8, c9, c10, c11, c12, c13, c14, c15, c16, c17, c18, c19, c20, c21, c22, c23, c24, c25, c26, c27, c28, c29, c30, c31, c32, c33, c34, c35, c36, c37, c38, c39, c40, c41, c42, c43, c44, c45, c46, c47, c48, c49, c50, c51, c52, c53, c54, c55, c56, c57, c58, c59, c60, c61, c62, c63, c64, c65, c66, c67, c68, c69, c70, c71, c72, c73, c74, c75, c76, c77, c78, c79, c80, c81, c82, c83, c84, c85, c86, c87], df⟩ : Act).tmps.size).map f).toArray = #[f 0, f 1, f 2, f 3, f 4, f 5, f 6, f 7, f 8, f 9, f 10, f 11, f 12, f 13, f 14, f 15, f 16, f 17, f 18, f 19, f 20, f 21, f 22, f 23, f 24, f 25, f 26, f 27, f 28, f 29, f 30, f 31, f 32, f 33, f 34, f 35, f 36, f 37, f 38, f 39, f 40, f 41, f 42, f 43, f 44, f 45, f 46, f 47, f 48, f 49, f 50, f 51, f 52, f 53, f 54, f 55, f 56, f 57, f 58, f 59, f 60, f 61, f 62, f 63, f 64, f 65, f 66, f 67, f 68, f 69, f 70, f 71, f 72, f 73, f 74, f 75, f 76, f 77, f 78, f 79, f 80, f 81, f 82, f 83, f 84, f 85, f 86, f 87] := fun _ => rfl
    rw [hl] at ha
    simp only [hv.fixed 0 (by decide), hv.fixed 1 (by decide), hv.fixed 2 (by decide), hv.fixed 3 (by decide), hv.fixed 4 (by decide), hv.fixed 5 (by decide), hv.fixed 6 (by decide), hv.fixed 7 (by decide), hv.fixed 8 (by decide), hv.fixed 9 (by decide), hv.fixed 10 (by decide), hv.fixed 11 (by decide), hv.fixed 12 (by decide), hv.fixed 16 (by decide), hv.fixed 17 (by decide), hv.fixed 18 (by decide), hv.fixed 19 (by decide), hv.fixed 20 (by decide), hv.fixed 21 (by decide), hv.fixed 22 (by decide), hv.fixed 23 (by decide), hv.fixed 24 (by decide), hv.fixed 25 (by decide), hv.fixed 26 (by decide), hv.fixed 27 (by decide), hv.fixed 28 (by decide), hv.fixed 29 (by decide), hv.fixed 30 (by decide), hv.fixed 31 (by decide), hv.fixed 32 (by decide), hv.fixed 33 (by decide), hv.fixed 34 (by decide), hv.fixed 35 (by decide), hv.fixed 36 (by decide), hv.fixed 37 (by decide), hv.fixed 38 (by decide), hv.fixed 39 (by decide), hv.fixed 51 (by decide), hv.fixed 52 (by decide), hv.fixed 53 (by decide), hv.fixed 54 (by decide), hv.fixed 55 (by decide), hv.fixed 56 (by decide), hv.fixed 57 (by decide), hv.fixed 58 (by decide), hv.fixed 59 (by decide), hv.fixed 60 (by decide), hv.fixed 61 (by decide), hv.fixed 62 (by decide), hv.fixed 63 (by decide), hv.fixed 64 (by decide), hv.fixed 65 (by decide), hv.fixed 66 (by decide), hv.fixed 67 (by decide), hv.fixed 68 (by decide), hv.fixed 69 (by decide), hv.fixed 70 (by decide), hv.fixed 71 (by decide), hv.fixed 72 (by decide), hv.fixed 73 (by decide), hv.fixed 74 (by decide), hv.fixed 75 (by decide), hv.fixed 76 (by decide), hv.fixed 77 (by decide), hv.fixed 78 (by decide), hv.fixed 79 (by decide), hv.fixed 80 (by decide), hv.fixed 81 (by decide), hv.fixed 82 (by decide), hv.fixed 83 (by decide), hv.fixed 84 (by decide), hv.fixed 85 (by decide), hv.fixed 86 (by decide), hv.fixed 87 (by decide), hv.get 11 (d := 13) rfl rfl (hall 11 (by decide)), hv.get 12 (d := 14) rfl rfl (hall 12 (by decide)), hv.get 13 (d := 15) rfl rfl (hall 13 (by decide))] at ha
    rw [ha]
    have hO := HO.out.1
    rw [if_pos (hall 11 (by decide)), if_pos (hall 14 (by decide)), if_pos (hall 12 (by decide)), if_pos (hall 15 (by decide)), if_pos (hall 13 (by decide)), if_pos (hall 16 (by decide))] at hO
    exact hK FB CB VA cA FL CL gB gA gL _ _ _ _ _ _ _ _ _ _ _ wc ⟨hO, (HO.out.2.1 (hall 3 (by decide))).here, (HO.out.2.2.1 (hall 7 (by decide))).here, (HO.out.2.2.2 (hall 10 (by decide))).here⟩
end Go.Proofs.YtdmljilcbndmfaaDoor

/- THE DRAWN REGION 13 of sanity of the laws of rebuild. -/
namespace Go.Proofs.YtdmljilcbndmfaaDoor
open Go.RowKit Go.Shelf
theorem sSame_self (r : Rb.Rec) (v u : Value) (w : World) (ha : RRec w v r) (hb : RRec w u r) : Calls Tryd.prog 18 #[v, u] w fun e w' => e = .returned (.bool true) ∧ Ext w w' := by
  have h := sSame_any r r v u w ha hb
  rw [decide_eq_true rfl] at h
  exact h
theorem sSameAll_self (r : List Rb.Rec) (v u : Value) (w : World) (ha : RRs w v r) (hb : RRs w u r) : Calls Tryd.prog 19 #[v, u] w fun e w' => e = .returned (.bool true) ∧ Ext w w' := by
  have h := sSameAll_any r r v u w ha hb
  rw [decide_eq_true rfl] at h
  exact h
theorem run_build2_int (w : World) (a : Act) (o : Oper) (x y : Int) (ho : o.op = .buildSlice 27 2 #[(0, .const (.int .i64 x)), (1, .const (.int .i64 y))]) : (execOp a.eval o).run Tryd.prog w = .ok (.value (.slice (some ⟨w.heap.size, 0, none⟩) 2 2)) (w.alloc (.cells #[.int .i64 x, .int .i64 y] 3)) := by
  unfold execOp
  simp only [ho]
  go_simp
theorem run_build2_u8 (w : World) (a : Act) (o : Oper) (x y : Int) (ho : o.op = .buildSlice 28 2 #[(0, .const (.int .u8 x)), (1, .const (.int .u8 y))]) : (execOp a.eval o).run Tryd.prog w = .ok (.value (.slice (some ⟨w.heap.size, 0, none⟩) 2 2)) (w.alloc (.cells #[.int .u8 x, .int .u8 y] 5)) := by
  unfold execOp
  simp only [ho]
  go_simp
noncomputable def san_near_code : Code := ((Tryd.f11.body.bind (regionOf 13)).getD .skip)
def san_near_dsts : List (Option Nat) := [some 121, some 122, some 123, some 124, some 125, some 126, some 127, some 128, some 129, some 130, some 131, some 132, some 133, some 134, some 135, some 136, some 137, some 138, some 139, some 140, some 141, some 142, some 143, some 144, some 23]
theorem san_near_apart : apartD san_near_dsts = true := by decide +kernel
set_option maxRecDepth 1000000 in
set_option maxHeartbeats 16000000 in
theorem san_near (Qa Qb Ql XF cL : Nat) (LA FAa CAa FAb CAb FAl CAl FAz CAz : Option Addr) (fca cca fcb ccb fcl ccl fcz ccz : Nat) (wr : World) (hCa : Cells wr Qa [.int .i64 0, .slice FAa 2 fca, .slice CAa 2 cca]) (hCb : Cells wr Qb [.int .i64 0, .slice FAb 4 fcb, .slice CAb 4 ccb]) (hCl : Cells wr Ql [.int .i64 5, .slice FAl 2 fcl, .slice CAl 2 ccl]) (hC0 : Cells wr XF [.int .i64 0, .slice FAz 4 fcz, .slice CAz 4 ccz]) (hRa : RRec wr (.agg #[.int .i64 0, .slice FAa 2 fca, .slice CAa 2 cca]) ⟨0, [1, 4], [1, 1]⟩) (hRb : RRec wr (.agg #[.int .i64 0, .slice FAb 4 fcb, .slice CAb 4 ccb]) ⟨0, [1, 2, 3, 6], [2, 4, 8, 1]⟩) (hRl : RRec wr (.agg #[.int .i64 5, .slice FAl 2 fcl, .slice CAl 2 ccl]) ⟨5, [2, 3], [1, 1]⟩) (hR0 : RRec wr (.agg #[.int .i64 0, .slice FAz 4 fcz, .slice CAz 4 ccz]) ⟨0, [1, 2, 3, 6], [2, 4, 8, 1]⟩) (hAL : RRs wr (.slice LA 3 cL) [⟨0, [1, 2, 3, 6], [2, 4, 8, 1]⟩, ⟨0, [1, 2, 5, 6], [2, 12, 8, 1]⟩, ⟨0, [1, 3, 5, 6], [2, 12, 4, 1]⟩]) (hFAR : RRs wr (.slice (some ⟨XF, 0, none⟩) 3 3) [⟨0, [1, 2, 3, 6], [2, 4, 8, 1]⟩, ⟨0, [1, 2, 5, 6], [2, 12, 8, 1]⟩, ⟨0, [1, 3, 5, 6], [2, 12, 4, 1]⟩]) (c0 c1 c3 c5 c6 c7 c9 c11 c12 c13 c14 c15 c16 c17 c18 c19 c20 c21 c23 c24 c25 c26 c27 c28 c29 c30 c31 c32 c33 c34 c35 c36 c37 c38 c39 c40 c41 c42 c43 c44 c45 c46 c47 c48 c49 c50 c51 c52 c53 c54 c55 c56 c57 c58 c59 c60 c61 c62 c63 c64 c65 c66 c67 c68 c69 c70 c71 c72 c73 c74 c75 c76 c77 c78 c79 c80 c81 c82 c83 c84 c85 c86 c87 c88 c89 c90 c91 c92 c93 c94 c95 c96 c97 c98 c99 c100 c101 c102 c103 c104 c105 c106 c107 c108 c109 c110 c111 c112 c113 c114 c115 c116 c117 c118 c119 c120 c121 c122 c123 c124 c125 c126 c127 c128 c129 c130 c131 c132 c133 c134 c135 c136 c137 c138 c139 c140 c141 c142 c143 c144 c145 c146 c147 c148 c149 c150 c151 c152 c153 c154 c155 c156 c157 c158 c159 c160 c161 c162 c163 c164 c165 c166 c167 c168 c169 c170 c171 c172 c173 : Value) (df : List Deferred) (K : Act → World → Prop)
    (hK : ∀  (u121 u122 u123 u124 u125 u126 u127 u128 u129 u130 u131 u132 u133 u134 u135 u136 u137 u138 u139 u140 u141 u142 u143 u144 : Value) (wx : World), Ext wr wx → K ⟨#[c0, c1, .pointer (some ⟨Qa, 0, none⟩), c3, .slice LA 3 cL, c5, c6, c7, .pointer (some ⟨Qb, 0, none⟩), c9, .pointer (some ⟨Ql, 0, none⟩), c11, c12, c13, c14, c15, c16, c17, c18, c19, c20, c21, .slice (some ⟨XF, 0, none⟩) 3 3, .bool true, c24, c25, c26, c27, c28, c29, c30, c31, c32, c33, c34, c35, c36, c37, c38, c39, c40, c41, c42, c43, c44, c45, c46, c47, c48, c49, c50, c51, c52, c53, c54, c55, c56, c57, c58, c59, c60, c61, c62, c63, c64, c65, c66, c67, c68, c69, c70, c71, c72, c73, c74, c75, c76, c77, c78, c79, c80, c81, c82, c83, c84, c85, c86, c87, c88, c89, c90, c91, c92, c93, c94, c95, c96, c97, c98, c99, c100, c101, c102, c103, c104, c105, c106, c107, c108, c109, c110, c111, c112, c113, c114, c115, c116, c117, c118, c119, c120, u121, u122, u123, u124, u125, u126, u127, u128, u129, u130, u131, u132, u133, u134, u135, u136, u137, u138, u139, u140, u141, u142, u143, u144, c145, c146, c147, c148, c149, c150, c151, c152, c153, c154, c155, c156, c157, c158, c159, c160, c161, c162, c163, c164, c165, c166, c167, c168, c169, c170, c171, c172, c173], df⟩ wx) :
    Code.wp Tryd.prog san_near_code (AtEnd K) ⟨#[c0, c1, .pointer (some ⟨Qa, 0, none⟩), c3, .slice LA 3 cL, c5, c6, c7, .pointer (some ⟨Qb, 0, none⟩), c9, .pointer (some ⟨Ql, 0, none⟩), c11, c12, c13, c14, c15, c16, c17, c18, c19, c20, c21, .slice (some ⟨XF, 0, none⟩) 3 3, c23, c24, c25, c26, c27, c28, c29, c30, c31, c32, c33, c34, c35, c36, c37, c38, c39, c40, c41, c42, c43, c44, c45, c46, c47, c48, c49, c50, c51, c52, c53, c54, c55, c56, c57, c58, c59, c60, c61, c62, c63, c64, c65, c66, c67, c68, c69, c70, c71, c72, c73, c74, c75, c76, c77, c78, c79, c80, c81, c82, c83, c84, c85, c86, c87, c88, c89, c90, c91, c92, c93, c94, c95, c96, c97, c98, c99, c100, c101, c102, c103, c104, c105, c106, c107, c108, c109, c110, c111, c112, c113, c114, c115, c116, c117, c118, c119, c120, c121, c122, c123, c124, c125, c126, c127, c128, c129, c130, c131, c132, c133, c134, c135, c136, c137, c138, c139, c140, c141, c142, c143, c144, c145, c146, c147, c148, c149, c150, c151, c152, c153, c154, c155, c156, c157, c158, c159, c160, c161, c162, c163, c164, c165, c166, c167, c168, c169, c170, c171, c172, c173], df⟩ wr := by
  conv => arg 2; whnf
  refine region_inv (by kernel_rfl) [[], [], [], [1, 2], [0, 3, 3], [4, 4], [5], [5], [6, 7, 5, 5], [5, 8], [9, 8], [10], [10], [12, 10], [13, 10], [11, 14, 10, 10], [10, 15], [16, 15], [17], [17], [17], [19, 20, 17, 17], [18, 21, 21, 17], [17, 22], [23, 22, 0, 1, 2, 3, 4, 5, 6, 7, 8, 9, 10, 11, 12, 13, 14, 15, 16, 17, 18, 19, 20, 21, 22, 23]] (by kernel_rfl) [0, 1, 2, 3, 4, 5, 6, 7, 8, 9, 10, 11, 12, 13, 14, 15, 16, 17, 18, 19, 20, 21, 22, 23, 24] (by decide +kernel) (by decide +kernel) (by decide +kernel) (fun L a wc => ∃ (ga : Nat) (gb : Nat) (gd : Nat) (ge : Nat), Inv san_near_dsts [.agg #[.int .i64 0, .slice FAa 2 fca, .slice CAa 2 cca], .slice (some ⟨ga, 0, none⟩) 2 2, .slice (some ⟨gb, 0, none⟩) 2 2, .agg #[.int .i64 0, .slice (some ⟨ga, 0, none⟩) 2 2, .slice (some ⟨gb, 0, none⟩) 2 2], .bool true, .bool true, .slice LA 3 cL, .slice (some ⟨XF, 0, none⟩) 3 3, .bool true, .bool true, .bool true, .agg #[.int .i64 0, .slice FAb 4 fcb, .slice CAb 4 ccb], .slice (some ⟨XF, 0, none⟩) 3 3, .pointer (some ⟨XF, 0, none⟩), .agg #[.int .i64 0, .slice FAz 4 fcz, .slice CAz 4 ccz], .bool true, .bool true, .bool true, .agg #[.int .i64 5, .slice FAl 2 fcl, .slice CAl 2 ccl], .slice (some ⟨gd, 0, none⟩) 2 2, .slice (some ⟨ge, 0, none⟩) 2 2, .agg #[.int .i64 5, .slice (some ⟨gd, 0, none⟩) 2 2, .slice (some ⟨ge, 0, none⟩) 2 2], .bool true, .bool true, .bool true] ⟨#[c0, c1, .pointer (some ⟨Qa, 0, none⟩), c3, .slice LA 3 cL, c5, c6, c7, .pointer (some ⟨Qb, 0, none⟩), c9, .pointer (some ⟨Ql, 0, none⟩), c11, c12, c13, c14, c15, c16, c17, c18, c19, c20, c21, .slice (some ⟨XF, 0, none⟩) 3 3, c23, c24, c25, c26, c27, c28, c29, c30, c31, c32, c33, c34, c35, c36, c37, c38, c39, c40, c41, c42, c43, c44, c45, c46, c47, c48, c49, c50, c51, c52, c53, c54, c55, c56, c57, c58, c59, c60, c61, c62, c63, c64, c65, c66, c67, c68, c69, c70, c71, c72, c73, c74, c75, c76, c77, c78, c79, c80, c81, c82, c83, c84, c85, c86, c87, c88, c89, c90, c91, c92, c93, c94, c95, c96, c97, c98, c99, c100, c101, c102, c103, c104, c105, c106, c107, c108, c109, c110, c111, c112, c113, c114, c115, c116, c117, c118, c119, c120, c121, c122, c123, c124, c125, c126, c127, c128, c129, c130, c131, c132, c133, c134, c135, c136, c137, c138, c139, c140, c141, c142, c143, c144, c145, c146, c147, c148, c149, c150, c151, c152, c153, c154, c155, c156, c157, c158, c159, c160, c161, c162, c163, c164, c165, c166, c167, c168, c169, c170, c171, c172, c173], df⟩ L a ∧ Hid (Ext wr wc ∧ (L 1 = true → Cells wc ga [.int .i64 1, .int .i64 4]) ∧ (L 2 = true → Cells wc gb [.int .u8 1, .int .u8 1]) ∧ (L 19 = true → Cells wc gd [.int .i64 2, .int .i64 3]) ∧ (L 20 = true → Cells wc ge [.int .u8 1, .int .u8 1]))) ⟨0, 0, 0, 0, Inv.start, Lib.hid ⟨(Ext.refl wr).drew, fun h => (by cases h), fun h => (by cases h), fun h => (by cases h), fun h => by cases h⟩⟩ ?_ ?_
  · refine ⟨?_, ?_, ?_, ?_, ?_, ?_, ?_, ?_, ?_, ?_, ?_, ?_, ?_, ?_, ?_, ?_, ?_, ?_, ?_, ?_, ?_, ?_, ?_, ?_, ?_, trivial⟩
    ·
      rintro L a wc ⟨ga, gb, gd, ge, hv, HO⟩ hL hc hd
      have e0 : wc.cell? ⟨Qa, 0, none⟩ = some (.int .i64 0) := HO.out.1.cell (hCa 0 _ rfl)
      have e1 : wc.cell? ⟨Qa, 1, none⟩ = some (.slice FAa 2 fca) := HO.out.1.cell (hCa 1 _ rfl)
      have e2 : wc.cell? ⟨Qa, 2, none⟩ = some (.slice CAa 2 cca) := HO.out.1.cell (hCa 2 _ rfl)
      exact wpOp_val rfl rfl (ex_load rfl ((hv.fixed 2 (by decide)).trans rfl) (by go_simp)) ⟨ga, gb, gd, ge, hv.put san_near_apart 0 rfl (lb rfl) (lb rfl) rfl, HO⟩
    ·
      rintro L a wc ⟨ga, gb, gd, ge, hv, HO⟩ hL hc hd
      have n3 : L 3 = false := Bool.eq_false_iff.2 fun h => Bool.false_ne_true (hL.symm.trans (hc 3 h 1 (by decide)))
      have hv := hv.reset 3 n3 (.agg #[.int .i64 0, .slice (some ⟨wc.heap.size, 0, none⟩) 2 2, .slice (some ⟨gb, 0, none⟩) 2 2])
      have hx : Ext wc (wc.alloc (.cells #[.int .i64 1, .int .i64 4] 3)) := (Ext.refl wc).alloc _
      exact wpOp_val rfl rfl (run_build2_int wc a _ _ _ rfl) ⟨wc.heap.size, gb, gd, ge, hv.put san_near_apart 1 rfl (lb rfl) (lb rfl) rfl, Lib.hid ⟨HO.out.1.trans hx, fun _ => cells_new wc #[.int .i64 1, .int .i64 4] 3, fun h => (HO.out.2.2.1 h).ext hx, fun h => (HO.out.2.2.2.1 h).ext hx, fun h => (HO.out.2.2.2.2 h).ext hx⟩⟩
    ·
      rintro L a wc ⟨ga, gb, gd, ge, hv, HO⟩ hL hc hd
      have n3 : L 3 = false := Bool.eq_false_iff.2 fun h => Bool.false_ne_true (hL.symm.trans (hc 3 h 2 (by decide)))
      have hv := hv.reset 3 n3 (.agg #[.int .i64 0, .slice (some ⟨ga, 0, none⟩) 2 2, .slice (some ⟨wc.heap.size, 0, none⟩) 2 2])
      have hx : Ext wc (wc.alloc (.cells #[.int .u8 1, .int .u8 1] 5)) := (Ext.refl wc).alloc _
      exact wpOp_val rfl rfl (run_build2_u8 wc a _ _ _ rfl) ⟨ga, wc.heap.size, gd, ge, hv.put san_near_apart 2 rfl (lb rfl) (lb rfl) rfl, Lib.hid ⟨HO.out.1.trans hx, fun h => (HO.out.2.1 h).ext hx, fun _ => cells_new wc #[.int .u8 1, .int .u8 1] 5, fun h => (HO.out.2.2.2.1 h).ext hx, fun h => (HO.out.2.2.2.2 h).ext hx⟩⟩
    ·
      rintro L a wc ⟨ga, gb, gd, ge, hv, HO⟩ hL hc hd
      refine wpOp_call (R := fun v w1 => v = .agg #[.int .i64 0, .slice (some ⟨ga, 0, none⟩) 2 2, .slice (some ⟨gb, 0, none⟩) 2 2] ∧ Ext wc w1) rfl rfl (ex_call rfl rfl (by simp only [List.map_toArray, List.map_cons, List.map_nil, (hv.get 1 rfl rfl (hd 1 (by decide))), (hv.get 2 rfl rfl (hd 2 (by decide)))]; rfl) (enters_of Tryd.func37 (by kernel_rfl) rfl _ _)) ((recipe8_any 0 _ _ 2 2 2 2 _ _ wc rfl rfl).mono (fun e w' h => ⟨_, h.1, rfl, h.2⟩)) ?_
      rintro v w' ⟨rfl, hx⟩
      exact ⟨ga, gb, gd, ge, hv.put san_near_apart 3 rfl (lb rfl) (lb rfl) rfl, Lib.hid ⟨HO.out.1.trans hx, fun h => (HO.out.2.1 h).ext hx, fun h => (HO.out.2.2.1 h).ext hx, fun h => (HO.out.2.2.2.1 h).ext hx, fun h => (HO.out.2.2.2.2 h).ext hx⟩⟩
    ·
      rintro L a wc ⟨ga, gb, gd, ge, hv, HO⟩ hL hc hd
      refine wpOp_call (R := fun v w1 => v = .bool true ∧ Ext wc w1) rfl rfl (ex_call rfl rfl (by simp only [List.map_toArray, List.map_cons, List.map_nil, (hv.get 0 rfl rfl (hd 0 (by decide))), (hv.get 3 rfl rfl (hd 3 (by decide)))]; rfl) (enters_of Tryd.func18 (by kernel_rfl) rfl _ _)) ((sSame_self ⟨0, [1, 4], [1, 1]⟩ _ _ wc (RRec.ext _ _ _ _ HO.out.1 hRa) (⟨_, _, rfl, rs_lit (l := [1, 4]) (HO.out.2.1 (hc 3 (hd 3 (by decide)) 1 (by decide))) rfl (by decide), rb_lit (l := [1, 1]) (HO.out.2.2.1 (hc 3 (hd 3 (by decide)) 2 (by decide))) (by decide)⟩ : RRec wc (.agg #[.int .i64 0, .slice (some ⟨ga, 0, none⟩) 2 2, .slice (some ⟨gb, 0, none⟩) 2 2]) ⟨0, [1, 4], [1, 1]⟩)).mono (fun e w' h => ⟨_, h.1, rfl, h.2⟩)) ?_
      rintro v w' ⟨rfl, hx⟩
      exact ⟨ga, gb, gd, ge, hv.put san_near_apart 4 rfl (lb rfl) (lb rfl) rfl, Lib.hid ⟨HO.out.1.trans hx, fun h => (HO.out.2.1 h).ext hx, fun h => (HO.out.2.2.1 h).ext hx, fun h => (HO.out.2.2.2.1 h).ext hx, fun h => (HO.out.2.2.2.2 h).ext hx⟩⟩
    ·
      rintro L a wc ⟨ga, gb, gd, ge, hv, HO⟩ hL hc hd
      exact wpOp_val rfl rfl (ex_move rfl (hv.get 4 rfl rfl (hd 4 (by decide)))) ⟨ga, gb, gd, ge, hv.put san_near_apart 5 rfl (lb rfl) (lb rfl) rfl, HO⟩
    ·
      rintro L a wc ⟨ga, gb, gd, ge, hv, HO⟩ hL hc hd
      exact wpOp_val rfl ((wanted_at rfl rfl (hv.get 5 rfl rfl (hd 5 (by decide)))).trans rfl) (ex_move rfl ((hv.fixed 4 (by decide)).trans rfl)) ⟨ga, gb, gd, ge, hv.put san_near_apart 6 rfl (lb rfl) (lb rfl) rfl, HO⟩
    ·
      rintro L a wc ⟨ga, gb, gd, ge, hv, HO⟩ hL hc hd
      exact wpOp_val rfl ((wanted_at rfl rfl (hv.get 5 rfl rfl (hd 5 (by decide)))).trans rfl) (ex_move rfl ((hv.fixed 22 (by decide)).trans rfl)) ⟨ga, gb, gd, ge, hv.put san_near_apart 7 rfl (lb rfl) (lb rfl) rfl, HO⟩
    ·
      rintro L a wc ⟨ga, gb, gd, ge, hv, HO⟩ hL hc hd
      refine wpOp_callw (R := fun v w1 => v = .bool true ∧ Ext wc w1) rfl ((wanted_at rfl rfl (hv.get 5 rfl rfl (hd 5 (by decide)))).trans rfl) (ex_call rfl rfl (by simp only [List.map_toArray, List.map_cons, List.map_nil, (hv.get 6 rfl rfl (hd 6 (by decide))), (hv.get 7 rfl rfl (hd 7 (by decide)))]; rfl) (enters_of Tryd.func19 (by kernel_rfl) rfl _ _)) ((sSameAll_self [⟨0, [1, 2, 3, 6], [2, 4, 8, 1]⟩, ⟨0, [1, 2, 5, 6], [2, 12, 8, 1]⟩, ⟨0, [1, 3, 5, 6], [2, 12, 4, 1]⟩] _ _ wc (RRs.ext _ _ _ _ HO.out.1 hAL) (RRs.ext _ _ _ _ HO.out.1 hFAR)).mono (fun e w' h => ⟨_, h.1, rfl, h.2⟩)) ?_
      rintro v w' ⟨rfl, hx⟩
      exact ⟨ga, gb, gd, ge, hv.put san_near_apart 8 rfl (lb rfl) (lb rfl) rfl, Lib.hid ⟨HO.out.1.trans hx, fun h => (HO.out.2.1 h).ext hx, fun h => (HO.out.2.2.1 h).ext hx, fun h => (HO.out.2.2.2.1 h).ext hx, fun h => (HO.out.2.2.2.2 h).ext hx⟩⟩
    ·
      rintro L a wc ⟨ga, gb, gd, ge, hv, HO⟩ hL hc hd
      exact wpOp_val rfl rfl (ex_pick rfl (hv.get 5 rfl rfl (hd 5 (by decide))) (hv.get 8 rfl rfl (hd 8 (by decide)))) ⟨ga, gb, gd, ge, hv.put san_near_apart 9 rfl (lb rfl) (lb rfl) rfl, HO⟩
    ·
      rintro L a wc ⟨ga, gb, gd, ge, hv, HO⟩ hL hc hd
      exact wpOp_val rfl rfl (ex_move rfl (hv.get 9 rfl rfl (hd 9 (by decide)))) ⟨ga, gb, gd, ge, hv.put san_near_apart 10 rfl (lb rfl) (lb rfl) rfl, HO⟩
    ·
      rintro L a wc ⟨ga, gb, gd, ge, hv, HO⟩ hL hc hd
      have e0 : wc.cell? ⟨Qb, 0, none⟩ = some (.int .i64 0) := HO.out.1.cell (hCb 0 _ rfl)
      have e1 : wc.cell? ⟨Qb, 1, none⟩ = some (.slice FAb 4 fcb) := HO.out.1.cell (hCb 1 _ rfl)
      have e2 : wc.cell? ⟨Qb, 2, none⟩ = some (.slice CAb 4 ccb) := HO.out.1.cell (hCb 2 _ rfl)
      exact wpOp_val rfl ((wanted_at rfl rfl (hv.get 10 rfl rfl (hd 10 (by decide)))).trans rfl) (ex_load rfl ((hv.fixed 8 (by decide)).trans rfl) (by go_simp)) ⟨ga, gb, gd, ge, hv.put san_near_apart 11 rfl (lb rfl) (lb rfl) rfl, HO⟩
    ·
      rintro L a wc ⟨ga, gb, gd, ge, hv, HO⟩ hL hc hd
      exact wpOp_val rfl ((wanted_at rfl rfl (hv.get 10 rfl rfl (hd 10 (by decide)))).trans rfl) (ex_move rfl ((hv.fixed 22 (by decide)).trans rfl)) ⟨ga, gb, gd, ge, hv.put san_near_apart 12 rfl (lb rfl) (lb rfl) rfl, HO⟩
    ·
      rintro L a wc ⟨ga, gb, gd, ge, hv, HO⟩ hL hc hd
      have u1 : (0 : Int) ≤ (0 : Int) := by omega
      have u2 : (0 : Int) < (3 : Int) := by omega
      exact wpOp_val rfl ((wanted_at rfl rfl (hv.get 10 rfl rfl (hd 10 (by decide)))).trans rfl) (ex_index rfl (hv.get 12 rfl rfl (hd 12 (by decide))) rfl (by go_simp)) ⟨ga, gb, gd, ge, hv.put san_near_apart 13 rfl (lb rfl) (lb rfl) rfl, HO⟩
    ·
      rintro L a wc ⟨ga, gb, gd, ge, hv, HO⟩ hL hc hd
      have e0 : wc.cell? ⟨XF, 0, none⟩ = some (.int .i64 0) := HO.out.1.cell (hC0 0 _ rfl)
      have e1 : wc.cell? ⟨XF, 1, none⟩ = some (.slice FAz 4 fcz) := HO.out.1.cell (hC0 1 _ rfl)
      have e2 : wc.cell? ⟨XF, 2, none⟩ = some (.slice CAz 4 ccz) := HO.out.1.cell (hC0 2 _ rfl)
      exact wpOp_val rfl ((wanted_at rfl rfl (hv.get 10 rfl rfl (hd 10 (by decide)))).trans rfl) (ex_load rfl (hv.get 13 rfl rfl (hd 13 (by decide))) (by go_simp)) ⟨ga, gb, gd, ge, hv.put san_near_apart 14 rfl (lb rfl) (lb rfl) rfl, HO⟩
    ·
      rintro L a wc ⟨ga, gb, gd, ge, hv, HO⟩ hL hc hd
      refine wpOp_callw (R := fun v w1 => v = .bool true ∧ Ext wc w1) rfl ((wanted_at rfl rfl (hv.get 10 rfl rfl (hd 10 (by decide)))).trans rfl) (ex_call rfl rfl (by simp only [List.map_toArray, List.map_cons, List.map_nil, (hv.get 11 rfl rfl (hd 11 (by decide))), (hv.get 14 rfl rfl (hd 14 (by decide)))]; rfl) (enters_of Tryd.func18 (by kernel_rfl) rfl _ _)) ((sSame_self ⟨0, [1, 2, 3, 6], [2, 4, 8, 1]⟩ _ _ wc (RRec.ext _ _ _ _ HO.out.1 hRb) (RRec.ext _ _ _ _ HO.out.1 hR0)).mono (fun e w' h => ⟨_, h.1, rfl, h.2⟩)) ?_
      rintro v w' ⟨rfl, hx⟩
      exact ⟨ga, gb, gd, ge, hv.put san_near_apart 15 rfl (lb rfl) (lb rfl) rfl, Lib.hid ⟨HO.out.1.trans hx, fun h => (HO.out.2.1 h).ext hx, fun h => (HO.out.2.2.1 h).ext hx, fun h => (HO.out.2.2.2.1 h).ext hx, fun h => (HO.out.2.2.2.2 h).ext hx⟩⟩
    ·
      rintro L a wc ⟨ga, gb, gd, ge, hv, HO⟩ hL hc hd
      exact wpOp_val rfl rfl (ex_pick rfl (hv.get 10 rfl rfl (hd 10 (by decide))) (hv.get 15 rfl rfl (hd 15 (by decide)))) ⟨ga, gb, gd, ge, hv.put san_near_apart 16 rfl (lb rfl) (lb rfl) rfl, HO⟩
    ·
      rintro L a wc ⟨ga, gb, gd, ge, hv, HO⟩ hL hc hd
      exact wpOp_val rfl rfl (ex_move rfl (hv.get 16 rfl rfl (hd 16 (by decide)))) ⟨ga, gb, gd, ge, hv.put san_near_apart 17 rfl (lb rfl) (lb rfl) rfl, HO⟩
    ·
      rintro L a wc ⟨ga, gb, gd, ge, hv, HO⟩ hL hc hd
      have e0 : wc.cell? ⟨Ql, 0, none⟩ = some (.int .i64 5) := HO.out.1.cell (hCl 0 _ rfl)
      have e1 : wc.cell? ⟨Ql, 1, none⟩ = some (.slice FAl 2 fcl) := HO.out.1.cell (hCl 1 _ rfl)
      have e2 : wc.cell? ⟨Ql, 2, none⟩ = some (.slice CAl 2 ccl) := HO.out.1.cell (hCl 2 _ rfl)
      exact wpOp_val rfl ((wanted_at rfl rfl (hv.get 17 rfl rfl (hd 17 (by decide)))).trans rfl) (ex_load rfl ((hv.fixed 10 (by decide)).trans rfl) (by go_simp)) ⟨ga, gb, gd, ge, hv.put san_near_apart 18 rfl (lb rfl) (lb rfl) rfl, HO⟩
    ·
      rintro L a wc ⟨ga, gb, gd, ge, hv, HO⟩ hL hc hd
      have n21 : L 21 = false := Bool.eq_false_iff.2 fun h => Bool.false_ne_true (hL.symm.trans (hc 21 h 19 (by decide)))
      have hv := hv.reset 21 n21 (.agg #[.int .i64 5, .slice (some ⟨wc.heap.size, 0, none⟩) 2 2, .slice (some ⟨ge, 0, none⟩) 2 2])
      have hx : Ext wc (wc.alloc (.cells #[.int .i64 2, .int .i64 3] 3)) := (Ext.refl wc).alloc _
      exact wpOp_val rfl ((wanted_at rfl rfl (hv.get 17 rfl rfl (hd 17 (by decide)))).trans rfl) (run_build2_int wc a _ _ _ rfl) ⟨ga, gb, wc.heap.size, ge, hv.put san_near_apart 19 rfl (lb rfl) (lb rfl) rfl, Lib.hid ⟨HO.out.1.trans hx, fun h => (HO.out.2.1 h).ext hx, fun h => (HO.out.2.2.1 h).ext hx, fun _ => cells_new wc #[.int .i64 2, .int .i64 3] 3, fun h => (HO.out.2.2.2.2 h).ext hx⟩⟩
    ·
      rintro L a wc ⟨ga, gb, gd, ge, hv, HO⟩ hL hc hd
      have n21 : L 21 = false := Bool.eq_false_iff.2 fun h => Bool.false_ne_true (hL.symm.trans (hc 21 h 20 (by decide)))
      have hv := hv.reset 21 n21 (.agg #[.int .i64 5, .slice (some ⟨gd, 0, none⟩) 2 2, .slice (some ⟨wc.heap.size, 0, none⟩) 2 2])
      have hx : Ext wc (wc.alloc (.cells #[.int .u8 1, .int .u8 1] 5)) := (Ext.refl wc).alloc _
      exact wpOp_val rfl ((wanted_at rfl rfl (hv.get 17 rfl rfl (hd 17 (by decide)))).trans rfl) (run_build2_u8 wc a _ _ _ rfl) ⟨ga, gb, gd, wc.heap.size, hv.put san_near_apart 20 rfl (lb rfl) (lb rfl) rfl, Lib.hid ⟨HO.out.1.trans hx, fun h => (HO.out.2.1 h).ext hx, fun h => (HO.out.2.2.1 h).ext hx, fun h => (HO.out.2.2.2.1 h).ext hx, fun _ => cells_new wc #[.int .u8 1, .int .u8 1] 5⟩⟩
    ·
      rintro L a wc ⟨ga, gb, gd, ge, hv, HO⟩ hL hc hd
      refine wpOp_callw (R := fun v w1 => v = .agg #[.int .i64 5, .slice (some ⟨gd, 0, none⟩) 2 2, .slice (some ⟨ge, 0, none⟩) 2 2] ∧ Ext wc w1) rfl ((wanted_at rfl rfl (hv.get 17 rfl rfl (hd 17 (by decide)))).trans rfl) (ex_call rfl rfl (by simp only [List.map_toArray, List.map_cons, List.map_nil, (hv.get 19 rfl rfl (hd 19 (by decide))), (hv.get 20 rfl rfl (hd 20 (by decide)))]; rfl) (enters_of Tryd.func37 (by kernel_rfl) rfl _ _)) ((recipe8_any 5 _ _ 2 2 2 2 _ _ wc rfl rfl).mono (fun e w' h => ⟨_, h.1, rfl, h.2⟩)) ?_
      rintro v w' ⟨rfl, hx⟩
      exact ⟨ga, gb, gd, ge, hv.put san_near_apart 21 rfl (lb rfl) (lb rfl) rfl, Lib.hid ⟨HO.out.1.trans hx, fun h => (HO.out.2.1 h).ext hx, fun h => (HO.out.2.2.1 h).ext hx, fun h => (HO.out.2.2.2.1 h).ext hx, fun h => (HO.out.2.2.2.2 h).ext hx⟩⟩
    ·
      rintro L a wc ⟨ga, gb, gd, ge, hv, HO⟩ hL hc hd
      refine wpOp_callw (R := fun v w1 => v = .bool true ∧ Ext wc w1) rfl ((wanted_at rfl rfl (hv.get 17 rfl rfl (hd 17 (by decide)))).trans rfl) (ex_call rfl rfl (by simp only [List.map_toArray, List.map_cons, List.map_nil, (hv.get 18 rfl rfl (hd 18 (by decide))), (hv.get 21 rfl rfl (hd 21 (by decide)))]; rfl) (enters_of Tryd.func18 (by kernel_rfl) rfl _ _)) ((sSame_self ⟨5, [2, 3], [1, 1]⟩ _ _ wc (RRec.ext _ _ _ _ HO.out.1 hRl) (⟨_, _, rfl, rs_lit (l := [2, 3]) (HO.out.2.2.2.1 (hc 21 (hd 21 (by decide)) 19 (by decide))) rfl (by decide), rb_lit (l := [1, 1]) (HO.out.2.2.2.2 (hc 21 (hd 21 (by decide)) 20 (by decide))) (by decide)⟩ : RRec wc (.agg #[.int .i64 5, .slice (some ⟨gd, 0, none⟩) 2 2, .slice (some ⟨ge, 0, none⟩) 2 2]) ⟨5, [2, 3], [1, 1]⟩)).mono (fun e w' h => ⟨_, h.1, rfl, h.2⟩)) ?_
      rintro v w' ⟨rfl, hx⟩
      exact ⟨ga, gb, gd, ge, hv.put san_near_apart 22 rfl (lb rfl) (lb rfl) rfl, Lib.hid ⟨HO.out.1.trans hx, fun h => (HO.out.2.1 h).ext hx, fun h => (HO.out.2.2.1 h).ext hx, fun h => (HO.out.2.2.2.1 h).ext hx, fun h => (HO.out.2.2.2.2 h).ext hx⟩⟩
    ·
      rintro L a wc ⟨ga, gb, gd, ge, hv, HO⟩ hL hc hd
      exact wpOp_val rfl rfl (ex_pick rfl (hv.get 17 rfl rfl (hd 17 (by decide))) (hv.get 22 rfl rfl (hd 22 (by decide)))) ⟨ga, gb, gd, ge, hv.put san_near_apart 23 rfl (lb rfl) (lb rfl) rfl, HO⟩
    ·
      rintro L a wc ⟨ga, gb, gd, ge, hv, HO⟩ hL hc hd
      exact wpOp_val rfl rfl (ex_assign rfl (hv.get 23 rfl rfl (hd 23 (by decide)))) ⟨ga, gb, gd, ge, hv.put san_near_apart 24 rfl (lb rfl) (lb rfl) rfl, HO⟩
  · rintro L a wc ⟨ga, gb, gd, ge, hv, HO⟩ hall
    show K a wc
    have ha := act_lit a
    rw [hv.size, hv.defers] at ha
    have hl : ∀ f : Nat → Value, ((List.range (⟨#[c0, c1, .pointer (some ⟨Qa, 0, none⟩), c3, .slice LA 3 cL, c5, c6, c7, .pointer (some ⟨Qb, 0, none⟩), c9, .pointer (some ⟨Ql, 0, none⟩), c11, c12, c13, c14, c15, c16, c17, c18, c19, c20, c21, .slice (some ⟨XF, 0, none⟩) 3 3, c23, c24, c25, c26, c27, c28, c29, c30, c31, c32, c33, c34, c35, c36, c37, c38, c39, c40, c41, c42, c43, c44, c45, c46, c47, c48, c49, c50, c51, c52, c53, c54, c55, c56, c57, c58, c59, c60, c61, c62, c63, c64, c65, c66, c67, c68, c69, c70, c71, c72, c73, c74, c75, c76, c77, c78, c79, c80, c81, c82, c83, c84, c85, c86, c87, c88, c89, c90, c91, c92, c93, c94, c95, c96, c97, c98, c99, c100, c101, c102, c103, c104, c105, c106, c107, c108, c109, c110, c111, c112, c113, c114, c115, c116, c117, c118, c119, c120, c121, c122, c123, c124, c125, c126, c127, c128, c129, c130, c131, c132, c133, c134, c135, c136, c137, c138, c139, c140, c141, c142, c143, c144, c145, c146, c147, c148, c149, c150, c151, c152, c153, c154, c155, c156, c157, c158, c159, c160, c161, c162, c163, c164, c165, c166, c167, c168, c169, c170, c171, c172, c173], df⟩ : Act).tmps.size).map f).toArray = #[f 0, f 1, f 2, f 3, f 4, f 5, f 6, f 7, f 8, f 9, f 10, f 11, f 12, f 13, f 14, f 15, f 16, f 17, f 18, f 19, f 20, f 21, f 22, f 23, f 24, f 25, f 26, f 27, f 28, f 29, f 30, f 31, f 32, f 33, f 34, f 35, f 36, f 37, f 38, f 39, f 40, f 41, f 42, f 43, f 44, f 45, f 46, f 47, f 48, f 49, f 50, f 51, f 52, f 53, f 54, f 55, f 56, f 57, f 58, f 59, f 60, f 61, f 62, f 63, f 64, f 65, f 66, f 67, f 68, f 69, f 70, f 71, f 72, f 73, f 74, f 75, f 76, f 77, f 78, f 79, f 80, f 81, f 82, f 83, f 84, f 85, f 86, f 87, f 88, f 89, f 90, f 91, f 92, f 93, f 94, f 95, f 96, f 97, f 98, f 99, f 100, f 101, f 102, f 103, f 104, f 105, f 106, f 107, f 108, f 109, f 110, f 111, f 112, f 113, f 114, f 115, f 116, f 117, f 118, f 119, f 120, f 121, f 122, f 123, f 124, f 125, f 126, f 127, f 128, f 129, f 130, f 131, f 132, f 133, f 134, f 135, f 136, f 137, f 138, f 139, f 140, f 141, f 142, f 143, f 144, f 145, f 146, f 147, f 148, f 149, f 150, f 151, f 152, f 153, f 154, f 155, f 156, f 157, f 158, f 159, f 160, f 161, f 162, f 163, f 164, f 165, f 166, f 167, f 168, f 169, f 170, f 171, f 172, f 173] := fun _ => rfl
    rw [hl] at ha
    simp only [hv.fixed 0 (by decide), hv.fixed 1 (by decide), hv.fixed 2 (by decide), hv.fixed 3 (by decide), hv.fixed 4 (by decide), hv.fixed 5 (by decide), hv.fixed 6 (by decide), hv.fixed 7 (by decide), hv.fixed 8 (by decide), hv.fixed 9 (by decide), hv.fixed 10 (by decide), hv.fixed 11 (by decide), hv.fixed 12 (by decide), hv.fixed 13 (by decide), hv.fixed 14 (by decide), hv.fixed 15 (by decide), hv.fixed 16 (by decide), hv.fixed 17 (by decide), hv.fixed 18 (by decide), hv.fixed 19 (by decide), hv.fixed 20 (by decide), hv.fixed 21 (by decide), hv.fixed 22 (by decide), hv.fixed 24 (by decide), hv.fixed 25 (by decide), hv.fixed 26 (by decide), hv.fixed 27 (by decide), hv.fixed 28 (by decide), hv.fixed 29 (by decide), hv.fixed 30 (by decide), hv.fixed 31 (by decide), hv.fixed 32 (by decide), hv.fixed 33 (by decide), hv.fixed 34 (by decide), hv.fixed 35 (by decide), hv.fixed 36 (by decide), hv.fixed 37 (by decide), hv.fixed 38 (by decide), hv.fixed 39 (by decide), hv.fixed 40 (by decide), hv.fixed 41 (by decide), hv.fixed 42 (by decide), hv.fixed 43 (by decide), hv.fixed 44 (by decide), hv.fixed 45 (by decide), hv.fixed 46 (by decide), hv.fixed 47 (by decide), hv.fixed 48 (by decide), hv.fixed 49 (by decide), hv.fixed 50 (by decide), hv.fixed 51 (by decide), hv.fixed 52 (by decide), hv.fixed 53 (by decide), hv.fixed 54 (by decide), hv.fixed 55 (by decide), hv.fixed 56 (by decide), hv.fixed 57 (by decide), hv.fixed 58 (by decide), hv.fixed 59 (by decide), hv.fixed 60 (by decide), hv.fixed 61 (by decide), hv.fixed 62 (by decide), hv.fixed 63 (by decide), hv.fixed 64 (by decide), hv.fixed 65 (by decide), hv.fixed 66 (by decide), hv.fixed 67 (by decide), hv.fixed 68 (by decide), hv.fixed 69 (by decide), hv.fixed 70 (by decide), hv.fixed 71 (by decide), hv.fixed 72 (by decide), hv.fixed 73 (by decide), hv.fixed 74 (by decide), hv.fixed 75 (by decide), hv.fixed 76 (by decide), hv.fixed 77 (by decide), hv.fixed 78 (by decide), hv.fixed 79 (by decide), hv.fixed 80 (by decide), hv.fixed 81 (by decide), hv.fixed 82 (by decide), hv.fixed 83 (by decide), hv.fixed 84 (by decide), hv.fixed 85 (by decide), hv.fixed 86 (by decide), hv.fixed 87 (by decide), hv.fixed 88 (by decide), hv.fixed 89 (by decide), hv.fixed 90 (by decide), hv.fixed 91 (by decide), hv.fixed 92 (by decide), hv.fixed 93 (by decide), hv.fixed 94 (by decide), hv.fixed 95 (by decide), hv.fixed 96 (by decide), hv.fixed 97 (by decide), hv.fixed 98 (by decide), hv.fixed 99 (by decide), hv.fixed 100 (by decide), hv.fixed 101 (by decide), hv.fixed 102 (by decide), hv.fixed 103 (by decide), hv.fixed 104 (by decide), hv.fixed 105 (by decide), hv.fixed 106 (by decide), hv.fixed 107 (by decide), hv.fixed 108 (by decide), hv.fixed 109 (by decide), hv.fixed 110 (by decide), hv.fixed 111 (by decide), hv.fixed 112 (by decide), hv.fixed 113 (by decide), hv.fixed 114 (by decide), hv.fixed 115 (by decide), hv.fixed 116 (by decide), hv.fixed 117 (by decide), hv.fixed 118 (by decide), hv.fixed 119 (by decide), hv.fixed 120 (by decide), hv.fixed 145 (by decide), hv.fixed 146 (by decide), hv.fixed 147 (by decide), hv.fixed 148 (by decide), hv.fixed 149 (by decide), hv.fixed 150 (by decide), hv.fixed 151 (by decide), hv.fixed 152 (by decide), hv.fixed 153 (by decide), hv.fixed 154 (by decide), hv.fixed 155 (by decide), hv.fixed 156 (by decide), hv.fixed 157 (by decide), hv.fixed 158 (by decide), hv.fixed 159 (by decide), hv.fixed 160 (by decide), hv.fixed 161 (by decide), hv.fixed 162 (by decide), hv.fixed 163 (by decide), hv.fixed 164 (by decide), hv.fixed 165 (by decide), hv.fixed 166 (by decide), hv.fixed 167 (by decide), hv.fixed 168 (by decide), hv.fixed 169 (by decide), hv.fixed 170 (by decide), hv.fixed 171 (by decide), hv.fixed 172 (by decide), hv.fixed 173 (by decide), hv.get 24 (d := 23) rfl rfl (hall 24 (by decide))] at ha
    rw [ha]
    exact hK _ _ _ _ _ _ _ _ _ _ _ _ _ _ _ _ _ _ _ _ _ _ _ _ wc HO.out.1
end Go.Proofs.YtdmljilcbndmfaaDoor

/- THE WALK over sanity of the laws of rebuild. -/
namespace Go.Proofs.YtdmljilcbndmfaaDoor
open Go.RowKit Go.Shelf
set_option maxRecDepth 100000 in
set_option maxHeartbeats 16000000 in
theorem sanity_any (w : World) (hT : Tab w) :
    Calls Tryd.prog 11 #[] w fun e w' => e = .returned (.bool true) ∧ Ext w w' := by
  have HT := Lib.hid hT
  clear hT
  go_enter Tryd.func11, Tryd.ntmps11
  go_wp2_with fail
  refine (example_any _).mono ?_
  rintro e w1 ⟨gG, rfl, hG, hx1⟩
  have HB := Lib.hid (cells_new w1 #[.int .i64 4, .slice (some ⟨gG, 0, none⟩) 2 2, .int .i64 1] 24)
  obtain ⟨B, hB⟩ : ∃ B, w1.heap.size = B := ⟨_, rfl⟩
  rw [hB] at HB
  have HX := Lib.hid (hx1.trans ((Ext.refl w1).alloc (.cells #[.int .i64 4, .slice (some ⟨gG, 0, none⟩) 2 2, .int .i64 1] 24)))
  have HG := Lib.hid (Rs.ext (Rs.ext RI.ext) _ _ _ _ ((Ext.refl w1).alloc (.cells #[.int .i64 4, .slice (some ⟨gG, 0, none⟩) 2 2, .int .i64 1] 24)) hG)
  have HT := Lib.hid (HT.out.ext HX.out)
  go_upto_region 2 with fail
  obtain ⟨w2, hw2⟩ : ∃ w2, w1.alloc (.cells #[.int .i64 4, .slice (some ⟨gG, 0, none⟩) 2 2, .int .i64 1] 24) = w2 := ⟨_, rfl⟩
  rw [hw2] at HB HX HG HT ⊢
  clear hG hx1 hw2 hB
  have b0 : w2.cell? ⟨B, 0, none⟩ = some (.int .i64 4) := HB.out 0 _ rfl
  have b1 : w2.cell? ⟨B, 1, none⟩ = some (.slice (some ⟨gG, 0, none⟩) 2 2) := HB.out 1 _ rfl
  have b2 : w2.cell? ⟨B, 2, none⟩ = some (.int .i64 1) := HB.out 2 _ rfl
  have hBl : B < w2.heap.size := lt_of_cell b0
  go_wp2_with fail
  refine (bBest_any 4 1 Rb.exG 1 0 _ _ HT.out HG.out).mono ?_
  rintro e w3 ⟨v, rfl, hv, hx⟩
  rw [Rb.ex_best1.2] at hv
  rw [Rb.ex_best1.1]
  obtain ⟨Fa, Ca, hvv, hF, hC⟩ := hv
  have hvv : v = .agg #[.int .i64 0, Fa, Ca] := hvv
  subst hvv
  obtain ⟨FAa, fca, rfl⟩ : ∃ FA fc, Fa = .slice FA 2 fc := by
    obtain ⟨FA, fc, h, _⟩ := hF.form
    exact ⟨FA, fc, h⟩
  obtain ⟨CAa, cca, rfl⟩ : ∃ CA cc, Ca = .slice CA 2 cc := by
    obtain ⟨CA, cc, h, _⟩ := hC.form
    exact ⟨CA, cc, h⟩
  have hxa : Ext w3 (w3.alloc (.cells #[.int .i64 0, .slice FAa 2 fca, .slice CAa 2 cca] 30)) := (Ext.refl w3).alloc _
  have hx2 := hx.trans hxa
  have HX := Lib.hid (HX.out.trans hx2)
  have HT := Lib.hid (HT.out.ext hx2)
  have HG := Lib.hid (Rs.ext (Rs.ext RI.ext) _ _ _ _ hx2 HG.out)
  have HB := Lib.hid (HB.out.ext hx2)
  have HCa := Lib.hid (cells_new w3 #[.int .i64 0, .slice FAa 2 fca, .slice CAa 2 cca] 30)
  have HFa := Lib.hid (And.intro (Rs.ext RI.ext _ _ _ _ hxa hF) (Rs.ext RB.ext _ _ _ _ hxa hC))
  clear hF hC hx hxa hx2 b0 b1 b2 hBl
  go_upto_region 3 with fail
  obtain ⟨Qa, hQa⟩ : ∃ Q, w3.heap.size = Q := ⟨_, rfl⟩
  rw [hQa] at HCa
  try rw [hQa]
  obtain ⟨w4, hw2⟩ : ∃ x, w3.alloc (.cells #[.int .i64 0, .slice FAa 2 fca, .slice CAa 2 cca] 30) = x := ⟨_, rfl⟩
  rw [hw2] at HX HT HG HB HCa HFa ⊢
  clear hw2 hQa
  have b0 : w4.cell? ⟨B, 0, none⟩ = some (.int .i64 4) := HB.out 0 _ rfl
  have b1 : w4.cell? ⟨B, 1, none⟩ = some (.slice (some ⟨gG, 0, none⟩) 2 2) := HB.out 1 _ rfl
  have b2 : w4.cell? ⟨B, 2, none⟩ = some (.int .i64 1) := HB.out 2 _ rfl
  have hBl : B < w4.heap.size := lt_of_cell b0
  go_wp2_with fail
  refine (bAll_any 4 1 Rb.exG 17 0 _ _ HT.out HG.out).mono ?_
  rintro e w5 ⟨v, rfl, hv, _, hx⟩
  rw [Rb.ex_all.2] at hv
  rw [Rb.ex_all.1]
  obtain ⟨LA, cL, rfl⟩ : ∃ A c, v = .slice A 3 c := by
    obtain ⟨A, c, h, _⟩ := hv.form
    exact ⟨A, c, h⟩
  have HX := Lib.hid (HX.out.trans hx)
  have HT := Lib.hid (HT.out.ext hx)
  have HG := Lib.hid (Rs.ext (Rs.ext RI.ext) _ _ _ _ hx HG.out)
  have HB := Lib.hid (HB.out.ext hx)
  have HCa := Lib.hid (HCa.out.ext hx)
  have HFa := Lib.hid (And.intro (Rs.ext RI.ext _ _ _ _ hx HFa.out.1) (Rs.ext RB.ext _ _ _ _ hx HFa.out.2))
  have HAL := Lib.hid hv
  clear hv hx b0 b1 b2 hBl
  go_upto_region 4 with fail
  have b0 : w5.cell? ⟨B, 0, none⟩ = some (.int .i64 4) := HB.out 0 _ rfl
  have b1 : w5.cell? ⟨B, 1, none⟩ = some (.slice (some ⟨gG, 0, none⟩) 2 2) := HB.out 1 _ rfl
  have b2 : w5.cell? ⟨B, 2, none⟩ = some (.int .i64 1) := HB.out 2 _ rfl
  have hBl : B < w5.heap.size := lt_of_cell b0
  go_wp2_with fail
  refine (bBest_any 4 1 Rb.exG 19 0 _ _ HT.out HG.out).mono ?_
  rintro e w6 ⟨v, rfl, hv, hx⟩
  rw [Rb.ex_best19.2] at hv
  rw [Rb.ex_best19.1]
  obtain ⟨Fn, Cn, hvv, hF, hC⟩ := hv
  have hvv : v = .agg #[.int .i64 0, Fn, Cn] := hvv
  subst hvv
  obtain ⟨FAn, fcn, rfl⟩ : ∃ FA fc, Fn = .slice FA 0 fc := by
    obtain ⟨FA, fc, h, _⟩ := hF.form
    exact ⟨FA, fc, h⟩
  obtain ⟨CAn, ccn, rfl⟩ : ∃ CA cc, Cn = .slice CA 0 cc := by
    obtain ⟨CA, cc, h, _⟩ := hC.form
    exact ⟨CA, cc, h⟩
  have hxa : Ext w6 (w6.alloc (.cells #[.int .i64 0, .slice FAn 0 fcn, .slice CAn 0 ccn] 30)) := (Ext.refl w6).alloc _
  have hx2 := hx.trans hxa
  have HX := Lib.hid (HX.out.trans hx2)
  have HT := Lib.hid (HT.out.ext hx2)
  have HG := Lib.hid (Rs.ext (Rs.ext RI.ext) _ _ _ _ hx2 HG.out)
  have HB := Lib.hid (HB.out.ext hx2)
  have HCa := Lib.hid (HCa.out.ext hx2)
  have HFa := Lib.hid (And.intro (Rs.ext RI.ext _ _ _ _ hx2 HFa.out.1) (Rs.ext RB.ext _ _ _ _ hx2 HFa.out.2))
  have HAL := Lib.hid (RRs.ext _ _ _ _ hx2 HAL.out)
  have HCn := Lib.hid (cells_new w6 #[.int .i64 0, .slice FAn 0 fcn, .slice CAn 0 ccn] 30)
  have HFn := Lib.hid (And.intro (Rs.ext RI.ext _ _ _ _ hxa hF) (Rs.ext RB.ext _ _ _ _ hxa hC))
  clear hF hC hx hxa hx2 b0 b1 b2 hBl
  go_upto_region 5 with fail
  obtain ⟨Qn, hQn⟩ : ∃ Q, w6.heap.size = Q := ⟨_, rfl⟩
  rw [hQn] at HCn
  try rw [hQn]
  obtain ⟨w7, hw2⟩ : ∃ x, w6.alloc (.cells #[.int .i64 0, .slice FAn 0 fcn, .slice CAn 0 ccn] 30) = x := ⟨_, rfl⟩
  rw [hw2] at HX HT HG HB HCa HFa HAL HCn HFn ⊢
  clear hw2 hQn
  have b0 : w7.cell? ⟨B, 0, none⟩ = some (.int .i64 4) := HB.out 0 _ rfl
  have b1 : w7.cell? ⟨B, 1, none⟩ = some (.slice (some ⟨gG, 0, none⟩) 2 2) := HB.out 1 _ rfl
  have b2 : w7.cell? ⟨B, 2, none⟩ = some (.int .i64 1) := HB.out 2 _ rfl
  have hBl : B < w7.heap.size := lt_of_cell b0
  go_wp2_with fail
  refine (bBest_any 4 1 Rb.exG 17 0 _ _ HT.out HG.out).mono ?_
  rintro e w8 ⟨v, rfl, hv, hx⟩
  rw [Rb.ex_best17.2] at hv
  rw [Rb.ex_best17.1]
  obtain ⟨Fb, Cb, hvv, hF, hC⟩ := hv
  have hvv : v = .agg #[.int .i64 0, Fb, Cb] := hvv
  subst hvv
  obtain ⟨FAb, fcb, rfl⟩ : ∃ FA fc, Fb = .slice FA 4 fc := by
    obtain ⟨FA, fc, h, _⟩ := hF.form
    exact ⟨FA, fc, h⟩
  obtain ⟨CAb, ccb, rfl⟩ : ∃ CA cc, Cb = .slice CA 4 cc := by
    obtain ⟨CA, cc, h, _⟩ := hC.form
    exact ⟨CA, cc, h⟩
  have hxa : Ext w8 (w8.alloc (.cells #[.int .i64 0, .slice FAb 4 fcb, .slice CAb 4 ccb] 30)) := (Ext.refl w8).alloc _
  have hx2 := hx.trans hxa
  have HX := Lib.hid (HX.out.trans hx2)
  have HT := Lib.hid (HT.out.ext hx2)
  have HG := Lib.hid (Rs.ext (Rs.ext RI.ext) _ _ _ _ hx2 HG.out)
  have HB := Lib.hid (HB.out.ext hx2)
  have HCa := Lib.hid (HCa.out.ext hx2)
  have HFa := Lib.hid (And.intro (Rs.ext RI.ext _ _ _ _ hx2 HFa.out.1) (Rs.ext RB.ext _ _ _ _ hx2 HFa.out.2))
  have HAL := Lib.hid (RRs.ext _ _ _ _ hx2 HAL.out)
  have HCn := Lib.hid (HCn.out.ext hx2)
  have HFn := Lib.hid (And.intro (Rs.ext RI.ext _ _ _ _ hx2 HFn.out.1) (Rs.ext RB.ext _ _ _ _ hx2 HFn.out.2))
  have HCb := Lib.hid (cells_new w8 #[.int .i64 0, .slice FAb 4 fcb, .slice CAb 4 ccb] 30)
  have HFb := Lib.hid (And.intro (Rs.ext RI.ext _ _ _ _ hxa hF) (Rs.ext RB.ext _ _ _ _ hxa hC))
  clear hF hC hx hxa hx2 b0 b1 b2 hBl
  go_upto_region 6 with fail
  obtain ⟨Qb, hQb⟩ : ∃ Q, w8.heap.size = Q := ⟨_, rfl⟩
  rw [hQb] at HCb
  try rw [hQb]
  obtain ⟨w9, hw2⟩ : ∃ x, w8.alloc (.cells #[.int .i64 0, .slice FAb 4 fcb, .slice CAb 4 ccb] 30) = x := ⟨_, rfl⟩
  rw [hw2] at HX HT HG HB HCa HFa HAL HCn HFn HCb HFb ⊢
  clear hw2 hQb
  have b0 : w9.cell? ⟨B, 0, none⟩ = some (.int .i64 4) := HB.out 0 _ rfl
  have b1 : w9.cell? ⟨B, 1, none⟩ = some (.slice (some ⟨gG, 0, none⟩) 2 2) := HB.out 1 _ rfl
  have b2 : w9.cell? ⟨B, 2, none⟩ = some (.int .i64 1) := HB.out 2 _ rfl
  have hBl : B < w9.heap.size := lt_of_cell b0
  go_wp2_with fail
  refine (bLocal_any 4 1 Rb.exG 5 _ _ HT.out HG.out).mono ?_
  rintro e w10 ⟨v, rfl, hv, hx⟩
  rw [Rb.ex_local.2.1] at hv
  rw [Rb.ex_local.1]
  obtain ⟨Fl, Cl, hvv, hF, hC⟩ := hv
  have hvv : v = .agg #[.int .i64 5, Fl, Cl] := hvv
  subst hvv
  obtain ⟨FAl, fcl, rfl⟩ : ∃ FA fc, Fl = .slice FA 2 fc := by
    obtain ⟨FA, fc, h, _⟩ := hF.form
    exact ⟨FA, fc, h⟩
  obtain ⟨CAl, ccl, rfl⟩ : ∃ CA cc, Cl = .slice CA 2 cc := by
    obtain ⟨CA, cc, h, _⟩ := hC.form
    exact ⟨CA, cc, h⟩
  have hxa : Ext w10 (w10.alloc (.cells #[.int .i64 5, .slice FAl 2 fcl, .slice CAl 2 ccl] 30)) := (Ext.refl w10).alloc _
  have hx2 := hx.trans hxa
  have HX := Lib.hid (HX.out.trans hx2)
  have HT := Lib.hid (HT.out.ext hx2)
  have HG := Lib.hid (Rs.ext (Rs.ext RI.ext) _ _ _ _ hx2 HG.out)
  have HB := Lib.hid (HB.out.ext hx2)
  have HCa := Lib.hid (HCa.out.ext hx2)
  have HFa := Lib.hid (And.intro (Rs.ext RI.ext _ _ _ _ hx2 HFa.out.1) (Rs.ext RB.ext _ _ _ _ hx2 HFa.out.2))
  have HAL := Lib.hid (RRs.ext _ _ _ _ hx2 HAL.out)
  have HCn := Lib.hid (HCn.out.ext hx2)
  have HFn := Lib.hid (And.intro (Rs.ext RI.ext _ _ _ _ hx2 HFn.out.1) (Rs.ext RB.ext _ _ _ _ hx2 HFn.out.2))
  have HCb := Lib.hid (HCb.out.ext hx2)
  have HFb := Lib.hid (And.intro (Rs.ext RI.ext _ _ _ _ hx2 HFb.out.1) (Rs.ext RB.ext _ _ _ _ hx2 HFb.out.2))
  have HCl := Lib.hid (cells_new w10 #[.int .i64 5, .slice FAl 2 fcl, .slice CAl 2 ccl] 30)
  have HFl := Lib.hid (And.intro (Rs.ext RI.ext _ _ _ _ hxa hF) (Rs.ext RB.ext _ _ _ _ hxa hC))
  clear hF hC hx hxa hx2 b0 b1 b2 hBl
  go_upto_region 7 with fail
  obtain ⟨Ql, hQl⟩ : ∃ Q, w10.heap.size = Q := ⟨_, rfl⟩
  rw [hQl] at HCl
  try rw [hQl]
  obtain ⟨w11, hw2⟩ : ∃ x, w10.alloc (.cells #[.int .i64 5, .slice FAl 2 fcl, .slice CAl 2 ccl] 30) = x := ⟨_, rfl⟩
  rw [hw2] at HX HT HG HB HCa HFa HAL HCn HFn HCb HFb HCl HFl ⊢
  clear hw2 hQl
  have b0 : w11.cell? ⟨B, 0, none⟩ = some (.int .i64 4) := HB.out 0 _ rfl
  have b1 : w11.cell? ⟨B, 1, none⟩ = some (.slice (some ⟨gG, 0, none⟩) 2 2) := HB.out 1 _ rfl
  have b2 : w11.cell? ⟨B, 2, none⟩ = some (.int .i64 1) := HB.out 2 _ rfl
  have hBl : B < w11.heap.size := lt_of_cell b0
  go_wp2_with fail
  refine (bLocal_any 4 1 Rb.exG 6 _ _ HT.out HG.out).mono ?_
  rintro e w12 ⟨v, rfl, hv, hx⟩
  rw [Rb.ex_local.2.2.2] at hv
  rw [Rb.ex_local.2.2.1]
  obtain ⟨Fm, Cm, hvv, hF, hC⟩ := hv
  have hvv : v = .agg #[.int .i64 0, Fm, Cm] := hvv
  subst hvv
  obtain ⟨FAm, fcm, rfl⟩ : ∃ FA fc, Fm = .slice FA 0 fc := by
    obtain ⟨FA, fc, h, _⟩ := hF.form
    exact ⟨FA, fc, h⟩
  obtain ⟨CAm, ccm, rfl⟩ : ∃ CA cc, Cm = .slice CA 0 cc := by
    obtain ⟨CA, cc, h, _⟩ := hC.form
    exact ⟨CA, cc, h⟩
  have hxa : Ext w12 (w12.alloc (.cells #[.int .i64 0, .slice FAm 0 fcm, .slice CAm 0 ccm] 30)) := (Ext.refl w12).alloc _
  have hx2 := hx.trans hxa
  have HX := Lib.hid (HX.out.trans hx2)
  have HT := Lib.hid (HT.out.ext hx2)
  have HG := Lib.hid (Rs.ext (Rs.ext RI.ext) _ _ _ _ hx2 HG.out)
  have HB := Lib.hid (HB.out.ext hx2)
  have HCa := Lib.hid (HCa.out.ext hx2)
  have HFa := Lib.hid (And.intro (Rs.ext RI.ext _ _ _ _ hx2 HFa.out.1) (Rs.ext RB.ext _ _ _ _ hx2 HFa.out.2))
  have HAL := Lib.hid (RRs.ext _ _ _ _ hx2 HAL.out)
  have HCn := Lib.hid (HCn.out.ext hx2)
  have HFn := Lib.hid (And.intro (Rs.ext RI.ext _ _ _ _ hx2 HFn.out.1) (Rs.ext RB.ext _ _ _ _ hx2 HFn.out.2))
  have HCb := Lib.hid (HCb.out.ext hx2)
  have HFb := Lib.hid (And.intro (Rs.ext RI.ext _ _ _ _ hx2 HFb.out.1) (Rs.ext RB.ext _ _ _ _ hx2 HFb.out.2))
  have HCl := Lib.hid (HCl.out.ext hx2)
  have HFl := Lib.hid (And.intro (Rs.ext RI.ext _ _ _ _ hx2 HFl.out.1) (Rs.ext RB.ext _ _ _ _ hx2 HFl.out.2))
  have HCm := Lib.hid (cells_new w12 #[.int .i64 0, .slice FAm 0 fcm, .slice CAm 0 ccm] 30)
  have HFm := Lib.hid (And.intro (Rs.ext RI.ext _ _ _ _ hxa hF) (Rs.ext RB.ext _ _ _ _ hxa hC))
  clear hF hC hx hxa hx2 b0 b1 b2 hBl
  go_upto_region 8 with fail
  obtain ⟨Qm, hQm⟩ : ∃ Q, w12.heap.size = Q := ⟨_, rfl⟩
  rw [hQm] at HCm
  try rw [hQm]
  obtain ⟨w13, hw2⟩ : ∃ x, w12.alloc (.cells #[.int .i64 0, .slice FAm 0 fcm, .slice CAm 0 ccm] 30) = x := ⟨_, rfl⟩
  rw [hw2] at HX HT HG HB HCa HFa HAL HCn HFn HCb HFb HCl HFl HCm HFm ⊢
  clear hw2 hQm
  have b0 : w13.cell? ⟨B, 0, none⟩ = some (.int .i64 4) := HB.out 0 _ rfl
  have b1 : w13.cell? ⟨B, 1, none⟩ = some (.slice (some ⟨gG, 0, none⟩) 2 2) := HB.out 1 _ rfl
  have b2 : w13.cell? ⟨B, 2, none⟩ = some (.int .i64 1) := HB.out 2 _ rfl
  have hBl : B < w13.heap.size := lt_of_cell b0
  go_wp2_with fail
  refine (bJoint_any 4 1 Rb.exG 5 _ _ HT.out HG.out).mono ?_
  rintro e w14 ⟨v1, v2, rfl, h1, h2, hx⟩
  rw [Rb.ex_joint.2] at h1 h2
  rw [Rb.ex_joint.1]
  have h1 : Rs RI w14 v1 [1, 3, 4, 5] := h1
  have h2 : RRs w14 v2 [⟨0, [1, 4], [1, 1]⟩, ⟨2, [3, 5], [1, 1]⟩] := h2
  obtain ⟨JA, cJ, rfl⟩ : ∃ A c, v1 = .slice A 4 c := by
    obtain ⟨A, c, h, _⟩ := h1.form
    exact ⟨A, c, h⟩
  obtain ⟨JB, dJ, rfl⟩ : ∃ A c, v2 = .slice A 2 c := by
    obtain ⟨A, c, h, _⟩ := h2.form
    exact ⟨A, c, h⟩
  have HX := Lib.hid (HX.out.trans hx)
  have HT := Lib.hid (HT.out.ext hx)
  have HG := Lib.hid (Rs.ext (Rs.ext RI.ext) _ _ _ _ hx HG.out)
  have HB := Lib.hid (HB.out.ext hx)
  have HCa := Lib.hid (HCa.out.ext hx)
  have HFa := Lib.hid (And.intro (Rs.ext RI.ext _ _ _ _ hx HFa.out.1) (Rs.ext RB.ext _ _ _ _ hx HFa.out.2))
  have HAL := Lib.hid (RRs.ext _ _ _ _ hx HAL.out)
  have HCn := Lib.hid (HCn.out.ext hx)
  have HFn := Lib.hid (And.intro (Rs.ext RI.ext _ _ _ _ hx HFn.out.1) (Rs.ext RB.ext _ _ _ _ hx HFn.out.2))
  have HCb := Lib.hid (HCb.out.ext hx)
  have HFb := Lib.hid (And.intro (Rs.ext RI.ext _ _ _ _ hx HFb.out.1) (Rs.ext RB.ext _ _ _ _ hx HFb.out.2))
  have HCl := Lib.hid (HCl.out.ext hx)
  have HFl := Lib.hid (And.intro (Rs.ext RI.ext _ _ _ _ hx HFl.out.1) (Rs.ext RB.ext _ _ _ _ hx HFl.out.2))
  have HCm := Lib.hid (HCm.out.ext hx)
  have HFm := Lib.hid (And.intro (Rs.ext RI.ext _ _ _ _ hx HFm.out.1) (Rs.ext RB.ext _ _ _ _ hx HFm.out.2))
  have HJ := Lib.hid (And.intro h1 h2)
  clear h1 h2 hx b0 b1 b2 hBl
  clear HG HB HCn HFn HCm HFm
  go_upto_region 9 with fail
  go_wp2_with fail
  refine (recipe8_any 0 _ _ 2 2 2 2 _ _ _ rfl rfl).mono ?_
  rintro e w15 ⟨rfl, hx⟩
  have hci := (cells_new w14 #[.int .i64 1, .int .i64 4] 3).ext (((Ext.refl _).alloc (.cells #[.int .u8 1, .int .u8 1] 5)).trans hx)
  have hcb := (cells_new (w14.alloc (.cells #[.int .i64 1, .int .i64 4] 3)) #[.int .u8 1, .int .u8 1] 5).ext hx
  rw [World.size_alloc] at hcb
  have hx2 := Ext.trans ((((Ext.refl w14).alloc _).alloc _)) hx
  have HX := Lib.hid (HX.out.trans hx2)
  have HT := Lib.hid (HT.out.ext hx2)
  have HCa := Lib.hid (HCa.out.ext hx2)
  have HFa := Lib.hid (And.intro (Rs.ext RI.ext _ _ _ _ hx2 HFa.out.1) (Rs.ext RB.ext _ _ _ _ hx2 HFa.out.2))
  have HAL := Lib.hid (RRs.ext _ _ _ _ hx2 HAL.out)
  have HCb := Lib.hid (HCb.out.ext hx2)
  have HFb := Lib.hid (And.intro (Rs.ext RI.ext _ _ _ _ hx2 HFb.out.1) (Rs.ext RB.ext _ _ _ _ hx2 HFb.out.2))
  have HCl := Lib.hid (HCl.out.ext hx2)
  have HFl := Lib.hid (And.intro (Rs.ext RI.ext _ _ _ _ hx2 HFl.out.1) (Rs.ext RB.ext _ _ _ _ hx2 HFl.out.2))
  have HJ := Lib.hid (And.intro (Rs.ext RI.ext _ _ _ _ hx2 HJ.out.1) (RRs.ext _ _ _ _ hx2 HJ.out.2))
  obtain ⟨Xp, hXp⟩ : ∃ X, w14.heap.size = X := ⟨_, rfl⟩
  rw [hXp] at hci hcb
  try rw [hXp]
  have HRp : Hid (RRec w15 (.agg #[.int .i64 0, .slice (some ⟨Xp, 0, none⟩) 2 2, .slice (some ⟨Xp + 1, 0, none⟩) 2 2]) ⟨0, [1, 4], [1, 1]⟩) := Lib.hid ⟨_, _, rfl, rs_lit (l := [1, 4]) hci rfl (by decide), rb_lit (l := [1, 1]) hcb (by decide)⟩
  clear hci hcb hx hx2 hXp
  go_wp2_with fail
  have htx : Rs RS (w15.alloc (.cells #[.string { data := #[3, 4] }, .string { data := #[2, 6] }] 9)) (.slice (some ⟨w15.heap.size, 0, none⟩) 2 2) [[3, 4], [2, 6]] := rt_lit (l := [[3, 4], [2, 6]]) (cells_new w15 #[.string { data := #[3, 4] }, .string { data := #[2, 6] }] 9) (by decide)
  have hxa : Ext w15 (w15.alloc (.cells #[.string { data := #[3, 4] }, .string { data := #[2, 6] }] 9)) := (Ext.refl _).alloc _
  refine (bApply_any ⟨0, [1, 4], [1, 1]⟩ [[3, 4], [2, 6]] _ _ _ (HT.out.ext hxa) (RRec.ext _ _ _ _ hxa HRp.out) htx (by decide) (by decide) (by decide)).mono ?_
  rintro e w16 ⟨rfl, hx⟩
  rw [Rb.ex_apply.1, Rb.ex_apply.2.1, show sb [1, 2] = ({ data := #[1, 2] } : ByteArray) from rfl]
  have hx2 := Ext.trans hxa hx
  have HX := Lib.hid (HX.out.trans hx2)
  have HT := Lib.hid (HT.out.ext hx2)
  have HCa := Lib.hid (HCa.out.ext hx2)
  have HFa := Lib.hid (And.intro (Rs.ext RI.ext _ _ _ _ hx2 HFa.out.1) (Rs.ext RB.ext _ _ _ _ hx2 HFa.out.2))
  have HAL := Lib.hid (RRs.ext _ _ _ _ hx2 HAL.out)
  have HCb := Lib.hid (HCb.out.ext hx2)
  have HFb := Lib.hid (And.intro (Rs.ext RI.ext _ _ _ _ hx2 HFb.out.1) (Rs.ext RB.ext _ _ _ _ hx2 HFb.out.2))
  have HCl := Lib.hid (HCl.out.ext hx2)
  have HFl := Lib.hid (And.intro (Rs.ext RI.ext _ _ _ _ hx2 HFl.out.1) (Rs.ext RB.ext _ _ _ _ hx2 HFl.out.2))
  have HJ := Lib.hid (And.intro (Rs.ext RI.ext _ _ _ _ hx2 HJ.out.1) (RRs.ext _ _ _ _ hx2 HJ.out.2))
  have HRp := Lib.hid (RRec.ext _ _ _ _ hx2 HRp.out)
  clear htx hxa hx hx2
  clear HRp
  go_upto_region 10 with fail
  go_wp2_with fail
  refine (recipe8_any 0 _ _ 2 2 2 2 _ _ _ rfl rfl).mono ?_
  rintro e w17 ⟨rfl, hx⟩
  have hci := (cells_new w16 #[.int .i64 1, .int .i64 4] 3).ext (((Ext.refl _).alloc (.cells #[.int .u8 1, .int .u8 1] 5)).trans hx)
  have hcb := (cells_new (w16.alloc (.cells #[.int .i64 1, .int .i64 4] 3)) #[.int .u8 1, .int .u8 1] 5).ext hx
  rw [World.size_alloc] at hcb
  have hx2 := Ext.trans ((((Ext.refl w16).alloc _).alloc _)) hx
  have HX := Lib.hid (HX.out.trans hx2)
  have HT := Lib.hid (HT.out.ext hx2)
  have HCa := Lib.hid (HCa.out.ext hx2)
  have HFa := Lib.hid (And.intro (Rs.ext RI.ext _ _ _ _ hx2 HFa.out.1) (Rs.ext RB.ext _ _ _ _ hx2 HFa.out.2))
  have HAL := Lib.hid (RRs.ext _ _ _ _ hx2 HAL.out)
  have HCb := Lib.hid (HCb.out.ext hx2)
  have HFb := Lib.hid (And.intro (Rs.ext RI.ext _ _ _ _ hx2 HFb.out.1) (Rs.ext RB.ext _ _ _ _ hx2 HFb.out.2))
  have HCl := Lib.hid (HCl.out.ext hx2)
  have HFl := Lib.hid (And.intro (Rs.ext RI.ext _ _ _ _ hx2 HFl.out.1) (Rs.ext RB.ext _ _ _ _ hx2 HFl.out.2))
  have HJ := Lib.hid (And.intro (Rs.ext RI.ext _ _ _ _ hx2 HJ.out.1) (RRs.ext _ _ _ _ hx2 HJ.out.2))
  obtain ⟨Xq, hXq⟩ : ∃ X, w16.heap.size = X := ⟨_, rfl⟩
  rw [hXq] at hci hcb
  try rw [hXq]
  have HRq : Hid (RRec w17 (.agg #[.int .i64 0, .slice (some ⟨Xq, 0, none⟩) 2 2, .slice (some ⟨Xq + 1, 0, none⟩) 2 2]) ⟨0, [1, 4], [1, 1]⟩) := Lib.hid ⟨_, _, rfl, rs_lit (l := [1, 4]) hci rfl (by decide), rb_lit (l := [1, 1]) hcb (by decide)⟩
  clear hci hcb hx hx2 hXq
  go_wp2_with fail
  have htx : Rs RS (w17.alloc (.cells #[.string { data := #[97] }, .string { data := #[98, 99] }] 9)) (.slice (some ⟨w17.heap.size, 0, none⟩) 2 2) [[97], [98, 99]] := rt_lit (l := [[97], [98, 99]]) (cells_new w17 #[.string { data := #[97] }, .string { data := #[98, 99] }] 9) (by decide)
  have hxa : Ext w17 (w17.alloc (.cells #[.string { data := #[97] }, .string { data := #[98, 99] }] 9)) := (Ext.refl _).alloc _
  refine (bApply_any ⟨0, [1, 4], [1, 1]⟩ [[97], [98, 99]] _ _ _ (HT.out.ext hxa) (RRec.ext _ _ _ _ hxa HRq.out) htx (by decide) (by decide) (by decide)).mono ?_
  rintro e w18 ⟨rfl, hx⟩
  rw [Rb.ex_apply.2.2.1]
  have hx2 := Ext.trans hxa hx
  have HX := Lib.hid (HX.out.trans hx2)
  have HT := Lib.hid (HT.out.ext hx2)
  have HCa := Lib.hid (HCa.out.ext hx2)
  have HFa := Lib.hid (And.intro (Rs.ext RI.ext _ _ _ _ hx2 HFa.out.1) (Rs.ext RB.ext _ _ _ _ hx2 HFa.out.2))
  have HAL := Lib.hid (RRs.ext _ _ _ _ hx2 HAL.out)
  have HCb := Lib.hid (HCb.out.ext hx2)
  have HFb := Lib.hid (And.intro (Rs.ext RI.ext _ _ _ _ hx2 HFb.out.1) (Rs.ext RB.ext _ _ _ _ hx2 HFb.out.2))
  have HCl := Lib.hid (HCl.out.ext hx2)
  have HFl := Lib.hid (And.intro (Rs.ext RI.ext _ _ _ _ hx2 HFl.out.1) (Rs.ext RB.ext _ _ _ _ hx2 HFl.out.2))
  have HJ := Lib.hid (And.intro (Rs.ext RI.ext _ _ _ _ hx2 HJ.out.1) (RRs.ext _ _ _ _ hx2 HJ.out.2))
  have HRq := Lib.hid (RRec.ext _ _ _ _ hx2 HRq.out)
  clear htx hxa hx hx2
  clear HRq
  go_upto_region 11 with fail
  go_upto_region 12 with fail
  go_wp2_with fail
  refine (recipe8_any 0 _ _ 4 4 4 4 _ _ _ rfl rfl).mono ?_
  rintro e w19 ⟨rfl, hx⟩
  have hci := (cells_new w18 #[.int .i64 1, .int .i64 2, .int .i64 3, .int .i64 6] 3).ext (((Ext.refl _).alloc (.cells #[.int .u8 2, .int .u8 4, .int .u8 8, .int .u8 1] 5)).trans hx)
  have hcb := (cells_new (w18.alloc (.cells #[.int .i64 1, .int .i64 2, .int .i64 3, .int .i64 6] 3)) #[.int .u8 2, .int .u8 4, .int .u8 8, .int .u8 1] 5).ext hx
  rw [World.size_alloc] at hcb
  have hx2 := Ext.trans ((((Ext.refl w18).alloc _).alloc _)) hx
  have HX := Lib.hid (HX.out.trans hx2)
  have HT := Lib.hid (HT.out.ext hx2)
  have HCa := Lib.hid (HCa.out.ext hx2)
  have HFa := Lib.hid (And.intro (Rs.ext RI.ext _ _ _ _ hx2 HFa.out.1) (Rs.ext RB.ext _ _ _ _ hx2 HFa.out.2))
  have HAL := Lib.hid (RRs.ext _ _ _ _ hx2 HAL.out)
  have HCb := Lib.hid (HCb.out.ext hx2)
  have HFb := Lib.hid (And.intro (Rs.ext RI.ext _ _ _ _ hx2 HFb.out.1) (Rs.ext RB.ext _ _ _ _ hx2 HFb.out.2))
  have HCl := Lib.hid (HCl.out.ext hx2)
  have HFl := Lib.hid (And.intro (Rs.ext RI.ext _ _ _ _ hx2 HFl.out.1) (Rs.ext RB.ext _ _ _ _ hx2 HFl.out.2))
  have HJ := Lib.hid (And.intro (Rs.ext RI.ext _ _ _ _ hx2 HJ.out.1) (RRs.ext _ _ _ _ hx2 HJ.out.2))
  obtain ⟨Xu, hXu⟩ : ∃ X, w18.heap.size = X := ⟨_, rfl⟩
  rw [hXu] at hci hcb
  try rw [hXu]
  have HRu : Hid (RRec w19 (.agg #[.int .i64 0, .slice (some ⟨Xu, 0, none⟩) 4 4, .slice (some ⟨Xu + 1, 0, none⟩) 4 4]) ⟨0, [1, 2, 3, 6], [2, 4, 8, 1]⟩) := Lib.hid ⟨_, _, rfl, rs_lit (l := [1, 2, 3, 6]) hci rfl (by decide), rb_lit (l := [2, 4, 8, 1]) hcb (by decide)⟩
  clear hci hcb hx hx2 hXu
  go_wp2_with fail
  refine (recipe8_any 0 _ _ 4 4 4 4 _ _ _ rfl rfl).mono ?_
  rintro e w20 ⟨rfl, hx⟩
  have hci := (cells_new w19 #[.int .i64 1, .int .i64 2, .int .i64 5, .int .i64 6] 3).ext (((Ext.refl _).alloc (.cells #[.int .u8 2, .int .u8 12, .int .u8 8, .int .u8 1] 5)).trans hx)
  have hcb := (cells_new (w19.alloc (.cells #[.int .i64 1, .int .i64 2, .int .i64 5, .int .i64 6] 3)) #[.int .u8 2, .int .u8 12, .int .u8 8, .int .u8 1] 5).ext hx
  rw [World.size_alloc] at hcb
  have hx2 := Ext.trans ((((Ext.refl w19).alloc _).alloc _)) hx
  have HX := Lib.hid (HX.out.trans hx2)
  have HT := Lib.hid (HT.out.ext hx2)
  have HCa := Lib.hid (HCa.out.ext hx2)
  have HFa := Lib.hid (And.intro (Rs.ext RI.ext _ _ _ _ hx2 HFa.out.1) (Rs.ext RB.ext _ _ _ _ hx2 HFa.out.2))
  have HAL := Lib.hid (RRs.ext _ _ _ _ hx2 HAL.out)
  have HCb := Lib.hid (HCb.out.ext hx2)
  have HFb := Lib.hid (And.intro (Rs.ext RI.ext _ _ _ _ hx2 HFb.out.1) (Rs.ext RB.ext _ _ _ _ hx2 HFb.out.2))
  have HCl := Lib.hid (HCl.out.ext hx2)
  have HFl := Lib.hid (And.intro (Rs.ext RI.ext _ _ _ _ hx2 HFl.out.1) (Rs.ext RB.ext _ _ _ _ hx2 HFl.out.2))
  have HJ := Lib.hid (And.intro (Rs.ext RI.ext _ _ _ _ hx2 HJ.out.1) (RRs.ext _ _ _ _ hx2 HJ.out.2))
  have HRu := Lib.hid (RRec.ext _ _ _ _ hx2 HRu.out)
  obtain ⟨Xx, hXx⟩ : ∃ X, w19.heap.size = X := ⟨_, rfl⟩
  rw [hXx] at hci hcb
  try rw [hXx]
  have HRx : Hid (RRec w20 (.agg #[.int .i64 0, .slice (some ⟨Xx, 0, none⟩) 4 4, .slice (some ⟨Xx + 1, 0, none⟩) 4 4]) ⟨0, [1, 2, 5, 6], [2, 12, 8, 1]⟩) := Lib.hid ⟨_, _, rfl, rs_lit (l := [1, 2, 5, 6]) hci rfl (by decide), rb_lit (l := [2, 12, 8, 1]) hcb (by decide)⟩
  clear hci hcb hx hx2 hXx
  go_wp2_with fail
  refine (recipe8_any 0 _ _ 4 4 4 4 _ _ _ rfl rfl).mono ?_
  rintro e w21 ⟨rfl, hx⟩
  have hci := (cells_new w20 #[.int .i64 1, .int .i64 3, .int .i64 5, .int .i64 6] 3).ext (((Ext.refl _).alloc (.cells #[.int .u8 2, .int .u8 12, .int .u8 4, .int .u8 1] 5)).trans hx)
  have hcb := (cells_new (w20.alloc (.cells #[.int .i64 1, .int .i64 3, .int .i64 5, .int .i64 6] 3)) #[.int .u8 2, .int .u8 12, .int .u8 4, .int .u8 1] 5).ext hx
  rw [World.size_alloc] at hcb
  have hx2 := Ext.trans ((((Ext.refl w20).alloc _).alloc _)) hx
  have HX := Lib.hid (HX.out.trans hx2)
  have HT := Lib.hid (HT.out.ext hx2)
  have HCa := Lib.hid (HCa.out.ext hx2)
  have HFa := Lib.hid (And.intro (Rs.ext RI.ext _ _ _ _ hx2 HFa.out.1) (Rs.ext RB.ext _ _ _ _ hx2 HFa.out.2))
  have HAL := Lib.hid (RRs.ext _ _ _ _ hx2 HAL.out)
  have HCb := Lib.hid (HCb.out.ext hx2)
  have HFb := Lib.hid (And.intro (Rs.ext RI.ext _ _ _ _ hx2 HFb.out.1) (Rs.ext RB.ext _ _ _ _ hx2 HFb.out.2))
  have HCl := Lib.hid (HCl.out.ext hx2)
  have HFl := Lib.hid (And.intro (Rs.ext RI.ext _ _ _ _ hx2 HFl.out.1) (Rs.ext RB.ext _ _ _ _ hx2 HFl.out.2))
  have HJ := Lib.hid (And.intro (Rs.ext RI.ext _ _ _ _ hx2 HJ.out.1) (RRs.ext _ _ _ _ hx2 HJ.out.2))
  have HRu := Lib.hid (RRec.ext _ _ _ _ hx2 HRu.out)
  have HRx := Lib.hid (RRec.ext _ _ _ _ hx2 HRx.out)
  obtain ⟨Xy, hXy⟩ : ∃ X, w20.heap.size = X := ⟨_, rfl⟩
  rw [hXy] at hci hcb
  try rw [hXy]
  have HRy : Hid (RRec w21 (.agg #[.int .i64 0, .slice (some ⟨Xy, 0, none⟩) 4 4, .slice (some ⟨Xy + 1, 0, none⟩) 4 4]) ⟨0, [1, 3, 5, 6], [2, 12, 4, 1]⟩) := Lib.hid ⟨_, _, rfl, rs_lit (l := [1, 3, 5, 6]) hci rfl (by decide), rb_lit (l := [2, 12, 4, 1]) hcb (by decide)⟩
  clear hci hcb hx hx2 hXy
  have hxa : Ext w21 (w21.alloc (.cells #[.int .i64 0, .slice (some ⟨Xu, 0, none⟩) 4 4, .slice (some ⟨Xu + 1, 0, none⟩) 4 4, .int .i64 0, .slice (some ⟨Xx, 0, none⟩) 4 4, .slice (some ⟨Xx + 1, 0, none⟩) 4 4, .int .i64 0, .slice (some ⟨Xy, 0, none⟩) 4 4, .slice (some ⟨Xy + 1, 0, none⟩) 4 4] 30)) := (Ext.refl _).alloc _
  have hlit : RRs (w21.alloc (.cells #[.int .i64 0, .slice (some ⟨Xu, 0, none⟩) 4 4, .slice (some ⟨Xu + 1, 0, none⟩) 4 4, .int .i64 0, .slice (some ⟨Xx, 0, none⟩) 4 4, .slice (some ⟨Xx + 1, 0, none⟩) 4 4, .int .i64 0, .slice (some ⟨Xy, 0, none⟩) 4 4, .slice (some ⟨Xy + 1, 0, none⟩) 4 4] 30)) (.slice (some ⟨w21.heap.size, 0, none⟩) 3 3) [⟨0, [1, 2, 3, 6], [2, 4, 8, 1]⟩, ⟨0, [1, 2, 5, 6], [2, 12, 8, 1]⟩, ⟨0, [1, 3, 5, 6], [2, 12, 4, 1]⟩] := rrs_lit (l := [(⟨0, [1, 2, 3, 6], [2, 4, 8, 1]⟩, .slice (some ⟨Xu, 0, none⟩) 4 4, .slice (some ⟨Xu + 1, 0, none⟩) 4 4), (⟨0, [1, 2, 5, 6], [2, 12, 8, 1]⟩, .slice (some ⟨Xx, 0, none⟩) 4 4, .slice (some ⟨Xx + 1, 0, none⟩) 4 4), (⟨0, [1, 3, 5, 6], [2, 12, 4, 1]⟩, .slice (some ⟨Xy, 0, none⟩) 4 4, .slice (some ⟨Xy + 1, 0, none⟩) 4 4)]) (cells_new w21 #[.int .i64 0, .slice (some ⟨Xu, 0, none⟩) 4 4, .slice (some ⟨Xu + 1, 0, none⟩) 4 4, .int .i64 0, .slice (some ⟨Xx, 0, none⟩) 4 4, .slice (some ⟨Xx + 1, 0, none⟩) 4 4, .int .i64 0, .slice (some ⟨Xy, 0, none⟩) 4 4, .slice (some ⟨Xy + 1, 0, none⟩) 4 4] 30) (fun y hy => by
    simp only [List.mem_cons, List.not_mem_nil, or_false] at hy
    rcases hy with rfl | rfl | rfl
    · exact rec_rows (RRec.ext _ _ _ _ hxa HRu.out)
    · exact rec_rows (RRec.ext _ _ _ _ hxa HRx.out)
    · exact rec_rows (RRec.ext _ _ _ _ hxa HRy.out)
    ) (by simp)
  go_upto_region 13 with fail
  have HFAR := Lib.hid hlit
  have hcf := cells_new w21 #[.int .i64 0, .slice (some ⟨Xu, 0, none⟩) 4 4, .slice (some ⟨Xu + 1, 0, none⟩) 4 4, .int .i64 0, .slice (some ⟨Xx, 0, none⟩) 4 4, .slice (some ⟨Xx + 1, 0, none⟩) 4 4, .int .i64 0, .slice (some ⟨Xy, 0, none⟩) 4 4, .slice (some ⟨Xy + 1, 0, none⟩) 4 4] 30
  have HC0 : Hid (Cells (w21.alloc (.cells #[.int .i64 0, .slice (some ⟨Xu, 0, none⟩) 4 4, .slice (some ⟨Xu + 1, 0, none⟩) 4 4, .int .i64 0, .slice (some ⟨Xx, 0, none⟩) 4 4, .slice (some ⟨Xx + 1, 0, none⟩) 4 4, .int .i64 0, .slice (some ⟨Xy, 0, none⟩) 4 4, .slice (some ⟨Xy + 1, 0, none⟩) 4 4] 30)) w21.heap.size [.int .i64 0, .slice (some ⟨Xu, 0, none⟩) 4 4, .slice (some ⟨Xu + 1, 0, none⟩) 4 4]) := Lib.hid fun i v hi => hcf i v (by
    match i, hi with
    | 0, hi => exact hi
    | 1, hi => exact hi
    | 2, hi => exact hi
    | i + 3, hi => simp at hi)
  have HX := Lib.hid (HX.out.trans hxa)
  have HT := Lib.hid (HT.out.ext hxa)
  have HCa := Lib.hid (HCa.out.ext hxa)
  have HFa := Lib.hid (And.intro (Rs.ext RI.ext _ _ _ _ hxa HFa.out.1) (Rs.ext RB.ext _ _ _ _ hxa HFa.out.2))
  have HAL := Lib.hid (RRs.ext _ _ _ _ hxa HAL.out)
  have HCb := Lib.hid (HCb.out.ext hxa)
  have HFb := Lib.hid (And.intro (Rs.ext RI.ext _ _ _ _ hxa HFb.out.1) (Rs.ext RB.ext _ _ _ _ hxa HFb.out.2))
  have HCl := Lib.hid (HCl.out.ext hxa)
  have HFl := Lib.hid (And.intro (Rs.ext RI.ext _ _ _ _ hxa HFl.out.1) (Rs.ext RB.ext _ _ _ _ hxa HFl.out.2))
  have HJ := Lib.hid (And.intro (Rs.ext RI.ext _ _ _ _ hxa HJ.out.1) (RRs.ext _ _ _ _ hxa HJ.out.2))
  have HRu := Lib.hid (RRec.ext _ _ _ _ hxa HRu.out)
  have HRx := Lib.hid (RRec.ext _ _ _ _ hxa HRx.out)
  have HRy := Lib.hid (RRec.ext _ _ _ _ hxa HRy.out)
  obtain ⟨XF, hXF⟩ : ∃ X, w21.heap.size = X := ⟨_, rfl⟩
  rw [hXF] at HFAR HC0
  try rw [hXF]
  obtain ⟨ws, hws⟩ : ∃ x, w21.alloc (.cells #[.int .i64 0, .slice (some ⟨Xu, 0, none⟩) 4 4, .slice (some ⟨Xu + 1, 0, none⟩) 4 4, .int .i64 0, .slice (some ⟨Xx, 0, none⟩) 4 4, .slice (some ⟨Xx + 1, 0, none⟩) 4 4, .int .i64 0, .slice (some ⟨Xy, 0, none⟩) 4 4, .slice (some ⟨Xy + 1, 0, none⟩) 4 4] 30) = x := ⟨_, rfl⟩
  rw [hws] at HFAR HC0 HX HT HCa HFa HAL HCb HFb HCl HFl HJ HRu HRx HRy ⊢
  clear hcf hlit hxa hws hXF
  refine wp_atEnd' (san_near Qa Qb Ql XF cL LA FAa CAa FAb CAb FAl CAl (some ⟨Xu, 0, none⟩) (some ⟨Xu + 1, 0, none⟩) fca cca fcb ccb fcl ccl 4 4 ws HCa.out HCb.out HCl.out HC0.out ⟨_, _, rfl, HFa.out.1, HFa.out.2⟩ ⟨_, _, rfl, HFb.out.1, HFb.out.2⟩ ⟨_, _, rfl, HFl.out.1, HFl.out.2⟩ HRu.out HAL.out HFAR.out _ _ _ _ _ _ _ _ _ _ _ _ _ _ _ _ _ _ _ _ _ _ _ _ _ _ _ _ _ _ _ _ _ _ _ _ _ _ _ _ _ _ _ _ _ _ _ _ _ _ _ _ _ _ _ _ _ _ _ _ _ _ _ _ _ _ _ _ _ _ _ _ _ _ _ _ _ _ _ _ _ _ _ _ _ _ _ _ _ _ _ _ _ _ _ _ _ _ _ _ _ _ _ _ _ _ _ _ _ _ _ _ _ _ _ _ _ _ _ _ _ _ _ _ _ _ _ _ _ _ _ _ _ _ _ _ _ _ _ _ _ _ _ _ _ _ _ _ _ _ _ _ _ _ _ _ _ _ _ _ _ _ _ _ _ _ _ _ _ _ _ ?_)
  rintro u121 u122 u123 u124 u125 u126 u127 u128 u129 u130 u131 u132 u133 u134 u135 u136 u137 u138 u139 u140 u141 u142 u143 u144 wx hx
  have HX := Lib.hid (HX.out.trans hx)
  have HT := Lib.hid (HT.out.ext hx)
  have HCa := Lib.hid (HCa.out.ext hx)
  have HFa := Lib.hid (And.intro (Rs.ext RI.ext _ _ _ _ hx HFa.out.1) (Rs.ext RB.ext _ _ _ _ hx HFa.out.2))
  have HJ := Lib.hid (And.intro (Rs.ext RI.ext _ _ _ _ hx HJ.out.1) (RRs.ext _ _ _ _ hx HJ.out.2))
  clear hx
  go_wp2_with fail
  have hxa : Ext wx (wx.alloc (.cells #[.int .i64 1, .int .i64 3, .int .i64 4, .int .i64 5] 3)) := (Ext.refl _).alloc _
  have htx : Rs RI (wx.alloc (.cells #[.int .i64 1, .int .i64 3, .int .i64 4, .int .i64 5] 3)) (.slice (some ⟨wx.heap.size, 0, none⟩) 4 4) [1, 3, 4, 5] := rs_lit (l := [1, 3, 4, 5]) (cells_new wx #[.int .i64 1, .int .i64 3, .int .i64 4, .int .i64 5] 3) rfl (by decide)
  refine (sList8_any [1, 3, 4, 5] [1, 3, 4, 5] _ _ _ (Rs.ext RI.ext _ _ _ _ hxa HJ.out.1) htx).mono ?_
  rintro e wa ⟨rfl, hx⟩
  rw [decide_eq_true rfl]
  have hx2 := Ext.trans hxa hx
  have HX := Lib.hid (HX.out.trans hx2)
  have HT := Lib.hid (HT.out.ext hx2)
  have HCa := Lib.hid (HCa.out.ext hx2)
  have HFa := Lib.hid (And.intro (Rs.ext RI.ext _ _ _ _ hx2 HFa.out.1) (Rs.ext RB.ext _ _ _ _ hx2 HFa.out.2))
  have HJ := Lib.hid (And.intro (Rs.ext RI.ext _ _ _ _ hx2 HJ.out.1) (RRs.ext _ _ _ _ hx2 HJ.out.2))
  clear hxa htx hx hx2
  go_wp2_with fail
  refine (recipe8_any 0 _ _ 2 2 2 2 _ _ _ rfl rfl).mono ?_
  rintro e w22 ⟨rfl, hx⟩
  have hci := (cells_new wa #[.int .i64 1, .int .i64 4] 3).ext (((Ext.refl _).alloc (.cells #[.int .u8 1, .int .u8 1] 5)).trans hx)
  have hcb := (cells_new (wa.alloc (.cells #[.int .i64 1, .int .i64 4] 3)) #[.int .u8 1, .int .u8 1] 5).ext hx
  rw [World.size_alloc] at hcb
  have hx2 := Ext.trans ((((Ext.refl wa).alloc _).alloc _)) hx
  have HX := Lib.hid (HX.out.trans hx2)
  have HT := Lib.hid (HT.out.ext hx2)
  have HCa := Lib.hid (HCa.out.ext hx2)
  have HFa := Lib.hid (And.intro (Rs.ext RI.ext _ _ _ _ hx2 HFa.out.1) (Rs.ext RB.ext _ _ _ _ hx2 HFa.out.2))
  have HJ := Lib.hid (And.intro (Rs.ext RI.ext _ _ _ _ hx2 HJ.out.1) (RRs.ext _ _ _ _ hx2 HJ.out.2))
  obtain ⟨Xv, hXv⟩ : ∃ X, wa.heap.size = X := ⟨_, rfl⟩
  rw [hXv] at hci hcb
  try rw [hXv]
  have HRv : Hid (RRec w22 (.agg #[.int .i64 0, .slice (some ⟨Xv, 0, none⟩) 2 2, .slice (some ⟨Xv + 1, 0, none⟩) 2 2]) ⟨0, [1, 4], [1, 1]⟩) := Lib.hid ⟨_, _, rfl, rs_lit (l := [1, 4]) hci rfl (by decide), rb_lit (l := [1, 1]) hcb (by decide)⟩
  clear hci hcb hx hx2 hXv
  go_wp2_with fail
  refine (recipe8_any 2 _ _ 2 2 2 2 _ _ _ rfl rfl).mono ?_
  rintro e w23 ⟨rfl, hx⟩
  have hci := (cells_new w22 #[.int .i64 3, .int .i64 5] 3).ext (((Ext.refl _).alloc (.cells #[.int .u8 1, .int .u8 1] 5)).trans hx)
  have hcb := (cells_new (w22.alloc (.cells #[.int .i64 3, .int .i64 5] 3)) #[.int .u8 1, .int .u8 1] 5).ext hx
  rw [World.size_alloc] at hcb
  have hx2 := Ext.trans ((((Ext.refl w22).alloc _).alloc _)) hx
  have HX := Lib.hid (HX.out.trans hx2)
  have HT := Lib.hid (HT.out.ext hx2)
  have HCa := Lib.hid (HCa.out.ext hx2)
  have HFa := Lib.hid (And.intro (Rs.ext RI.ext _ _ _ _ hx2 HFa.out.1) (Rs.ext RB.ext _ _ _ _ hx2 HFa.out.2))
  have HJ := Lib.hid (And.intro (Rs.ext RI.ext _ _ _ _ hx2 HJ.out.1) (RRs.ext _ _ _ _ hx2 HJ.out.2))
  have HRv := Lib.hid (RRec.ext _ _ _ _ hx2 HRv.out)
  obtain ⟨Xt, hXt⟩ : ∃ X, w22.heap.size = X := ⟨_, rfl⟩
  rw [hXt] at hci hcb
  try rw [hXt]
  have HRt : Hid (RRec w23 (.agg #[.int .i64 2, .slice (some ⟨Xt, 0, none⟩) 2 2, .slice (some ⟨Xt + 1, 0, none⟩) 2 2]) ⟨2, [3, 5], [1, 1]⟩) := Lib.hid ⟨_, _, rfl, rs_lit (l := [3, 5]) hci rfl (by decide), rb_lit (l := [1, 1]) hcb (by decide)⟩
  clear hci hcb hx hx2 hXt
  go_wp2_with fail
  have hxa : Ext w23 (w23.alloc (.cells #[.int .i64 0, .slice (some ⟨Xv, 0, none⟩) 2 2, .slice (some ⟨Xv + 1, 0, none⟩) 2 2, .int .i64 2, .slice (some ⟨Xt, 0, none⟩) 2 2, .slice (some ⟨Xt + 1, 0, none⟩) 2 2] 30)) := (Ext.refl _).alloc _
  have hlit : RRs (w23.alloc (.cells #[.int .i64 0, .slice (some ⟨Xv, 0, none⟩) 2 2, .slice (some ⟨Xv + 1, 0, none⟩) 2 2, .int .i64 2, .slice (some ⟨Xt, 0, none⟩) 2 2, .slice (some ⟨Xt + 1, 0, none⟩) 2 2] 30)) (.slice (some ⟨w23.heap.size, 0, none⟩) 2 2) [⟨0, [1, 4], [1, 1]⟩, ⟨2, [3, 5], [1, 1]⟩] := rrs_lit (l := [(⟨0, [1, 4], [1, 1]⟩, .slice (some ⟨Xv, 0, none⟩) 2 2, .slice (some ⟨Xv + 1, 0, none⟩) 2 2), (⟨2, [3, 5], [1, 1]⟩, .slice (some ⟨Xt, 0, none⟩) 2 2, .slice (some ⟨Xt + 1, 0, none⟩) 2 2)]) (cells_new w23 #[.int .i64 0, .slice (some ⟨Xv, 0, none⟩) 2 2, .slice (some ⟨Xv + 1, 0, none⟩) 2 2, .int .i64 2, .slice (some ⟨Xt, 0, none⟩) 2 2, .slice (some ⟨Xt + 1, 0, none⟩) 2 2] 30) (fun y hy => by
    simp only [List.mem_cons, List.not_mem_nil, or_false] at hy
    rcases hy with rfl | rfl
    · exact rec_rows (RRec.ext _ _ _ _ hxa HRv.out)
    · exact rec_rows (RRec.ext _ _ _ _ hxa HRt.out)
    ) (by simp)
  refine (sSameAll_self [⟨0, [1, 4], [1, 1]⟩, ⟨2, [3, 5], [1, 1]⟩] _ _ _ (RRs.ext _ _ _ _ hxa HJ.out.2) hlit).mono ?_
  rintro e wb ⟨rfl, hx⟩
  have hx2 := Ext.trans hxa hx
  have HX := Lib.hid (HX.out.trans hx2)
  have HT := Lib.hid (HT.out.ext hx2)
  have HCa := Lib.hid (HCa.out.ext hx2)
  have HFa := Lib.hid (And.intro (Rs.ext RI.ext _ _ _ _ hx2 HFa.out.1) (Rs.ext RB.ext _ _ _ _ hx2 HFa.out.2))
  have HJ := Lib.hid (And.intro (Rs.ext RI.ext _ _ _ _ hx2 HJ.out.1) (RRs.ext _ _ _ _ hx2 HJ.out.2))
  have HRv := Lib.hid (RRec.ext _ _ _ _ hx2 HRv.out)
  have HRt := Lib.hid (RRec.ext _ _ _ _ hx2 HRt.out)
  clear hxa hlit hx hx2
  have q0 : wb.cell? ⟨Qa, 0, none⟩ = some (.int .i64 0) := HCa.out 0 _ rfl
  have q1 : wb.cell? ⟨Qa, 1, none⟩ = some (.slice FAa 2 fca) := HCa.out 1 _ rfl
  have q2 : wb.cell? ⟨Qa, 2, none⟩ = some (.slice CAa 2 cca) := HCa.out 2 _ rfl
  go_wp2_with fail
  refine (bCheck_any ⟨0, [1, 4], [1, 1]⟩ _ _ ⟨_, _, rfl, HFa.out.1, HFa.out.2⟩ (by decide)).mono ?_
  rintro e wc ⟨rfl, hx⟩
  rw [Rb.ex_apply.2.2.2]
  have HX := Lib.hid (HX.out.trans hx)
  clear hx q0 q1 q2
  go_wp2_with fail
  go_ret
  exact ⟨rfl, HX.out⟩
end Go.Proofs.YtdmljilcbndmfaaDoor

/- THE WALKS over the small functions of the laws of rebuild. -/
namespace Rb
/-- The laws' test of a code. -/
def fewC (d gl : Int) (gs : List (List Int)) (most : Int) : Bool := Cd.few gs 30 && (decide (Cd.pieces d gs gl ≤ most) || decide (16 < Cd.pieces d gs gl))
end Rb
namespace Go.Proofs.YtdmljilcbndmfaaDoor
open Go.RowKit Go.Shelf
set_option maxRecDepth 100000 in
theorem few8_any (d gl most : Int) (gs : List (List Int)) (G : Value) (w : World) (hG : Rs (Rs RI) w G gs) (hn : gs.length ≤ 4611686018427387904) :
    Calls Tryd.prog 10 #[.agg #[.int .i64 d, G, .int .i64 gl], .int .i64 most] w fun e w' => e = .returned (.bool (Rb.fewC d gl gs most)) ∧ Ext w w' := by
  obtain ⟨A, c, rfl, hl⟩ := hG.form
  have hx0 := (Ext.refl w).alloc (.cells #[.int .i64 d, .slice A gs.length c, .int .i64 gl] 24)
  have HX := Lib.hid (And.intro hx0 (And.intro (Rs.ext (Rs.ext RI.ext) _ _ _ _ hx0 hG) hn))
  clear hG hx0 hn
  go_enter Tryd.func10, Tryd.ntmps10
  go_wp2_with fail
  refine (rPieces_any d gl gs _ _ HX.out.2.1 HX.out.2.2).mono ?_
  rintro e w1 ⟨rfl, hx1⟩
  have b0 := hx1.cell (show (w.alloc (.cells #[.int .i64 d, .slice A gs.length c, .int .i64 gl] 24)).cell? ⟨w.heap.size, 0, none⟩ = some (.int .i64 d) by go_simp)
  have b1 := hx1.cell (show (w.alloc (.cells #[.int .i64 d, .slice A gs.length c, .int .i64 gl] 24)).cell? ⟨w.heap.size, 1, none⟩ = some (.slice A gs.length c) by go_simp)
  have b2 := hx1.cell (show (w.alloc (.cells #[.int .i64 d, .slice A gs.length c, .int .i64 gl] 24)).cell? ⟨w.heap.size, 2, none⟩ = some (.int .i64 gl) by go_simp)
  have HX1 := Lib.hid (And.intro (HX.out.1.trans hx1) (Rs.ext (Rs.ext RI.ext) _ _ _ _ hx1 HX.out.2.1))
  clear hx1
  go_wp2_with fail
  refine (rFew_any d gl gs 30 _ _ HX1.out.2 (by decide)).mono ?_
  rintro e w2 ⟨rfl, hx2⟩
  have HX2 := Lib.hid (HX1.out.1.trans hx2)
  clear hx2 b0 b1 b2
  obtain ⟨n, hn⟩ : ∃ n, Cd.pieces d gs gl = n := ⟨_, rfl⟩
  rw [hn]
  cases hf : Cd.few gs 30 with
  | false =>
    have HD := Lib.hid (show Rb.fewC d gl gs most = false by unfold Rb.fewC; rw [hf]; rfl)
    clear hf hn
    go_wp2_with fail
    go_ret
    exact ⟨ret_bool HD.out.symm, HX2.out⟩
  | true =>
    by_cases h1 : n ≤ most
    · have HD := Lib.hid (show Rb.fewC d gl gs most = true by unfold Rb.fewC; rw [hf, hn, decide_eq_true h1]; rfl)
      clear hf hn
      go_wp2_with fail
      go_ret
      exact ⟨ret_bool HD.out.symm, HX2.out⟩
    · by_cases h2 : 16 < n
      · have HD := Lib.hid (show Rb.fewC d gl gs most = true by unfold Rb.fewC; rw [hf, hn, decide_eq_true h2]; simp)
        clear hf hn
        go_wp2_with fail
        go_ret
        exact ⟨ret_bool HD.out.symm, HX2.out⟩
      · have HD := Lib.hid (show Rb.fewC d gl gs most = false by unfold Rb.fewC; rw [hf, hn, decide_eq_false h1, decide_eq_false h2]; rfl)
        clear hf hn
        go_wp2_with fail
        go_ret
        exact ⟨ret_bool (by rw [HD.out, decide_eq_false (by omega), decide_eq_false (by omega)]; rfl), HX2.out⟩
end Go.Proofs.YtdmljilcbndmfaaDoor

/- REBUILD CHOOSES AS SPECIFIED: the walk. -/
namespace Go.Proofs.YtdmljilcbndmfaaDoor
open Go.RowKit Go.Shelf
set_option maxHeartbeats 8000000 in
set_option maxRecDepth 100000 in
theorem law_chooses (d gl lost piece : Int) (gs : List (List Int)) (G : Value) (w : World) (hT : Tab w) (hG : Rs (Rs RI) w G gs) (hn : gs.length ≤ 4611686018427387904) :
    Calls Tryd.prog 3 #[.agg #[.int .i64 d, G, .int .i64 gl], .int .i64 lost, .int .i64 piece] w fun e w' => e = .returned (.bool true) ∧ Ext w w' := by
  obtain ⟨A, c, rfl, hl⟩ := hG.form
  obtain ⟨ng, hng⟩ : ∃ ng, gs.length = ng := ⟨_, rfl⟩
  have HN := Lib.hid hn
  rw [hng] at hG ⊢
  have hx0 := (Ext.refl w).alloc (.cells #[.int .i64 d, .slice A ng c, .int .i64 gl] 24)
  have HX := Lib.hid hx0
  have HT := Lib.hid (hT.ext hx0)
  have HG := Lib.hid (Rs.ext (Rs.ext RI.ext) _ _ _ _ hx0 hG)
  have HB := Lib.hid (cells_new w #[.int .i64 d, .slice A ng c, .int .i64 gl] 24)
  have hm := few8_any d gl 9 gs _ _ HG.out HN.out
  obtain ⟨fw, hfw⟩ : ∃ fw, Rb.fewC d gl gs 9 = fw := ⟨_, rfl⟩
  rw [hfw] at hm
  have HM := Lib.hid hm
  clear hT hG hx0 hn hm hfw hng hl
  go_enter Tryd.func3, Tryd.ntmps3
  go_wp2_with fail
  refine HM.out.mono ?_
  clear HM
  rintro e w1 ⟨rfl, hx1⟩
  obtain ⟨BB, hBB⟩ : ∃ x, w.heap.size = x := ⟨_, rfl⟩
  rw [hBB] at HB ⊢
  clear hBB
  replace HX := Lib.hid ((HX.out).trans hx1)
  replace HT := Lib.hid ((HT.out).ext hx1)
  replace HG := Lib.hid (Rs.ext (Rs.ext RI.ext) _ _ _ _ hx1 (HG.out))
  replace HB := Lib.hid ((HB.out).ext hx1)
  clear hx1
  cases fw with
  | false =>
    go_wp2_with fail
    refine (sanity_any w1 HT.out).mono ?_
    rintro e w901 ⟨rfl, hxs⟩
    have HXS := Lib.hid (HX.out.trans hxs)
    clear hxs
    go_wp2_with fail
    go_ret
    exact ⟨rfl, HXS.out⟩
  | true =>
    have b0 : w1.cell? ⟨BB, 0, none⟩ = some (.int .i64 d) := HB.out 0 _ rfl
    have b1 : w1.cell? ⟨BB, 1, none⟩ = some (.slice A ng c) := HB.out 1 _ rfl
    have b2 : w1.cell? ⟨BB, 2, none⟩ = some (.int .i64 gl) := HB.out 2 _ rfl
    go_wp2_with fail
    clear b0 b1 b2
    refine (bBest_any d gl gs lost piece _ _ HT.out HG.out).mono ?_
    rintro e w2a ⟨v, rfl, hv, hx⟩
    obtain ⟨F1, C1, rfl, hF, hC⟩ := hv
    obtain ⟨FA1, fc1, rfl, hl1⟩ := hF.form
    obtain ⟨CA1, cc1, rfl, _⟩ := hC.form
    obtain ⟨r1, hr1⟩ : ∃ r, Rb.bestR d gl gs lost piece = r := ⟨_, rfl⟩
    rw [hr1] at hF hC
    try rw [hr1]
    have HR1 := Lib.hid hr1
    obtain ⟨n1, hn1⟩ : ∃ n, r1.src.length = n := ⟨_, rfl⟩
    obtain ⟨m1, hm1⟩ : ∃ m, r1.coef.length = m := ⟨_, rfl⟩
    obtain ⟨p1, hp1⟩ : ∃ m, r1.piece = m := ⟨_, rfl⟩
    rw [hr1, hn1] at hl1
    rw [hn1] at hF
    rw [hm1] at hC
    try rw [hn1]
    try rw [hm1]
    try rw [hp1]
    have HS1 := Lib.hid (And.intro hn1 (And.intro hm1 hp1))
    have hxa : Ext w2a (w2a.alloc (.cells #[.int .i64 p1, .slice FA1 n1 fc1, .slice CA1 m1 cc1] 30)) := (Ext.refl w2a).alloc _
    have hx2 := hx.trans hxa
    replace HX := Lib.hid ((HX.out).trans hx2)
    replace HT := Lib.hid ((HT.out).ext hx2)
    replace HG := Lib.hid (Rs.ext (Rs.ext RI.ext) _ _ _ _ hx2 (HG.out))
    replace HB := Lib.hid ((HB.out).ext hx2)
    clear hx2
    have HC1 := Lib.hid (cells_new w2a #[.int .i64 p1, .slice FA1 n1 fc1, .slice CA1 m1 cc1] 30)
    have HF1 := Lib.hid (And.intro (Rs.ext RI.ext _ _ _ _ hxa hF) (Rs.ext RB.ext _ _ _ _ hxa hC))
    clear hF hC hx hxa hr1 hn1 hm1 hp1
    go_upto_region 4 with fail
    obtain ⟨Q1, hQ⟩ : ∃ Q, w2a.heap.size = Q := ⟨_, rfl⟩
    rw [hQ] at HC1
    try rw [hQ]
    obtain ⟨w2, hw⟩ : ∃ x, w2a.alloc (.cells #[.int .i64 p1, .slice FA1 n1 fc1, .slice CA1 m1 cc1] 30) = x := ⟨_, rfl⟩
    rw [hw] at HX HT HG HB HC1 HF1 ⊢
    clear hw
    clear hQ
    obtain ⟨eB, heB⟩ : ∃ e, Rb.leastE d gl gs lost piece = e := ⟨_, rfl⟩
    rw [heB]
    have HEB := Lib.hid heB
    clear heB
    have b0 : w2.cell? ⟨BB, 0, none⟩ = some (.int .i64 d) := HB.out 0 _ rfl
    have b1 : w2.cell? ⟨BB, 1, none⟩ = some (.slice A ng c) := HB.out 1 _ rfl
    have b2 : w2.cell? ⟨BB, 2, none⟩ = some (.int .i64 gl) := HB.out 2 _ rfl
    go_wp2_with fail
    clear b0 b1 b2
    refine (bAll_any d gl gs lost piece _ _ HT.out HG.out).mono ?_
    rintro e w3 ⟨v, rfl, hv, hnw, hx⟩
    clear hnw
    rw [HEB.out]
    obtain ⟨lA, hlA⟩ : ∃ l, Rb.leastL d gl gs lost piece true = l := ⟨_, rfl⟩
    rw [hlA] at hv
    obtain ⟨V9, c9, rfl, hj⟩ := hv.form
    clear hj
    obtain ⟨n9, hn9⟩ : ∃ n, lA.length = n := ⟨_, rfl⟩
    rw [hn9] at hv ⊢
    have HLA := Lib.hid (And.intro hlA hn9)
    clear hlA hn9
    replace HX := Lib.hid ((HX.out).trans hx)
    replace HT := Lib.hid ((HT.out).ext hx)
    replace HG := Lib.hid (Rs.ext (Rs.ext RI.ext) _ _ _ _ hx (HG.out))
    replace HB := Lib.hid ((HB.out).ext hx)
    replace HC1 := Lib.hid ((HC1.out).ext hx)
    replace HF1 := Lib.hid (And.intro (Rs.ext RI.ext _ _ _ _ hx (HF1.out).1) (Rs.ext RB.ext _ _ _ _ hx (HF1.out).2))
    clear hx
    have HV9 := Lib.hid hv
    clear hv
    have b0 : w3.cell? ⟨BB, 0, none⟩ = some (.int .i64 d) := HB.out 0 _ rfl
    have b1 : w3.cell? ⟨BB, 1, none⟩ = some (.slice A ng c) := HB.out 1 _ rfl
    have b2 : w3.cell? ⟨BB, 2, none⟩ = some (.int .i64 gl) := HB.out 2 _ rfl
    go_wp2_with fail
    clear b0 b1 b2
    refine (bLocal_any d gl gs piece _ _ HT.out HG.out).mono ?_
    rintro e w4a ⟨v, rfl, hv, hx⟩
    obtain ⟨F3, C3, rfl, hF, hC⟩ := hv
    obtain ⟨FA3, fc3, rfl, hl3⟩ := hF.form
    obtain ⟨CA3, cc3, rfl, _⟩ := hC.form
    obtain ⟨r3, hr3⟩ : ∃ r, Rb.localR d gl gs piece = r := ⟨_, rfl⟩
    rw [hr3] at hF hC
    try rw [hr3]
    have HR3 := Lib.hid hr3
    obtain ⟨n3, hn3⟩ : ∃ n, r3.src.length = n := ⟨_, rfl⟩
    obtain ⟨m3, hm3⟩ : ∃ m, r3.coef.length = m := ⟨_, rfl⟩
    obtain ⟨p3, hp3⟩ : ∃ m, r3.piece = m := ⟨_, rfl⟩
    rw [hr3, hn3] at hl3
    rw [hn3] at hF
    rw [hm3] at hC
    try rw [hn3]
    try rw [hm3]
    try rw [hp3]
    have HS3 := Lib.hid (And.intro hn3 (And.intro hm3 hp3))
    have hxa : Ext w4a (w4a.alloc (.cells #[.int .i64 p3, .slice FA3 n3 fc3, .slice CA3 m3 cc3] 30)) := (Ext.refl w4a).alloc _
    have hx2 := hx.trans hxa
    replace HX := Lib.hid ((HX.out).trans hx2)
    replace HT := Lib.hid ((HT.out).ext hx2)
    replace HG := Lib.hid (Rs.ext (Rs.ext RI.ext) _ _ _ _ hx2 (HG.out))
    replace HB := Lib.hid ((HB.out).ext hx2)
    replace HC1 := Lib.hid ((HC1.out).ext hx2)
    replace HF1 := Lib.hid (And.intro (Rs.ext RI.ext _ _ _ _ hx2 (HF1.out).1) (Rs.ext RB.ext _ _ _ _ hx2 (HF1.out).2))
    replace HV9 := Lib.hid (RRs.ext _ _ _ _ hx2 (HV9.out))
    clear hx2
    have HC3 := Lib.hid (cells_new w4a #[.int .i64 p3, .slice FA3 n3 fc3, .slice CA3 m3 cc3] 30)
    have HF3 := Lib.hid (And.intro (Rs.ext RI.ext _ _ _ _ hxa hF) (Rs.ext RB.ext _ _ _ _ hxa hC))
    clear hF hC hx hxa hr3 hn3 hm3 hp3
    go_upto_region 6 with fail
    obtain ⟨Q3, hQ⟩ : ∃ Q, w4a.heap.size = Q := ⟨_, rfl⟩
    rw [hQ] at HC3
    try rw [hQ]
    obtain ⟨w4, hw⟩ : ∃ x, w4a.alloc (.cells #[.int .i64 p3, .slice FA3 n3 fc3, .slice CA3 m3 cc3] 30) = x := ⟨_, rfl⟩
    rw [hw] at HX HT HG HB HC1 HF1 HV9 HC3 HF3 ⊢
    clear hw
    clear hQ
    obtain ⟨eL, heL⟩ : ∃ e, Rb.localE d gl gs piece = e := ⟨_, rfl⟩
    rw [heL]
    have HEL := Lib.hid heL
    clear heL
    have b0 : w4.cell? ⟨BB, 0, none⟩ = some (.int .i64 d) := HB.out 0 _ rfl
    have b1 : w4.cell? ⟨BB, 1, none⟩ = some (.slice A ng c) := HB.out 1 _ rfl
    have b2 : w4.cell? ⟨BB, 2, none⟩ = some (.int .i64 gl) := HB.out 2 _ rfl
    refine wp_atEnd' (ch6 w4 BB A ng c n9 d gl lost piece eB eL gs r1 r3 lA b0 b1 b2 (Lib.hid (And.intro HG.out HN.out)) (Lib.hid ⟨HR1.out, HEB.out, HLA.out.1, HLA.out.2, HR3.out, HEL.out⟩) _ _ _ _ _ _ _ _ _ _ _ _ _ _ _ _ _ _ _ _ _ _ _ _ _ _ _ _ _ _ _ _ _ _ _ _ _ _ _ _ _ _ _ _ _ _ _ _ _ _ _ _ _ _ _ _ _ _ _ _ _ _ _ _ _ _ _ _ _ _ _ _ _ _ _ _ _ _ _ _ _ _ _ _ _ _ _ ?_)
    rintro FB CB VA cA FL CL gB gA gL u40 u41 u42 u43 u44 u45 u46 u47 u48 u49 u50 w5 ⟨hO5, hB5, hA5, hL5⟩
    clear b0 b1 b2
    have hx5 := hO5.ext
    replace HX := Lib.hid ((HX.out).trans hx5)
    replace HT := Lib.hid ((HT.out).ext hx5)
    replace HG := Lib.hid (Rs.ext (Rs.ext RI.ext) _ _ _ _ hx5 (HG.out))
    replace HB := Lib.hid ((HB.out).ext hx5)
    replace HC1 := Lib.hid ((HC1.out).ext hx5)
    replace HF1 := Lib.hid (And.intro (Rs.ext RI.ext _ _ _ _ hx5 (HF1.out).1) (Rs.ext RB.ext _ _ _ _ hx5 (HF1.out).2))
    replace HV9 := Lib.hid (RRs.ext _ _ _ _ hx5 (HV9.out))
    replace HC3 := Lib.hid ((HC3.out).ext hx5)
    replace HF3 := Lib.hid (And.intro (Rs.ext RI.ext _ _ _ _ hx5 (HF3.out).1) (Rs.ext RB.ext _ _ _ _ hx5 (HF3.out).2))
    clear hx5
    have HCB : Hid (Cells w5 gB [.int .i64 r1.piece, FB, CB, .int .i64 eB]) := Lib.hid fun i v hi => hO5.cell 0 rfl i hi
    have HCA : Hid (Cells w5 gA [.slice VA n9 cA, .int .i64 eB]) := Lib.hid fun i v hi => hO5.cell 1 rfl i hi
    have HCL : Hid (Cells w5 gL [.int .i64 r3.piece, FL, CL, .int .i64 eL]) := Lib.hid fun i v hi => hO5.cell 2 rfl i hi
    have HR1' : Hid (RRec w5 (.agg #[.int .i64 p1, .slice FA1 n1 fc1, .slice CA1 m1 cc1]) r1) := Lib.hid ⟨_, _, by rw [HS1.out.2.2], HF1.out.1, HF1.out.2⟩
    have HR3' : Hid (RRec w5 (.agg #[.int .i64 p3, .slice FA3 n3 fc3, .slice CA3 m3 cc3]) r3) := Lib.hid ⟨_, _, by rw [HS3.out.2.2], HF3.out.1, HF3.out.2⟩
    have HRB : Hid (RRec w5 (.agg #[.int .i64 r1.piece, FB, CB]) r1) := Lib.hid ⟨_, _, rfl, hB5.1, hB5.2⟩
    have HRL : Hid (RRec w5 (.agg #[.int .i64 r3.piece, FL, CL]) r3) := Lib.hid ⟨_, _, rfl, hL5.1, hL5.2⟩
    have HA5 := Lib.hid hA5
    clear hO5 hB5 hA5 hL5
    have he1 : (eB == eB) = true := by simp
    have he2 : (eL == eL) = true := by simp
    go_wp2_with fail
    refine (sanity_any w5 HT.out).mono ?_
    rintro e w6 ⟨rfl, hx6⟩
    replace HX := Lib.hid ((HX.out).trans hx6)
    replace HT := Lib.hid ((HT.out).ext hx6)
    replace HG := Lib.hid (Rs.ext (Rs.ext RI.ext) _ _ _ _ hx6 (HG.out))
    replace HB := Lib.hid ((HB.out).ext hx6)
    replace HC1 := Lib.hid ((HC1.out).ext hx6)
    replace HF1 := Lib.hid (And.intro (Rs.ext RI.ext _ _ _ _ hx6 (HF1.out).1) (Rs.ext RB.ext _ _ _ _ hx6 (HF1.out).2))
    replace HV9 := Lib.hid (RRs.ext _ _ _ _ hx6 (HV9.out))
    replace HC3 := Lib.hid ((HC3.out).ext hx6)
    replace HF3 := Lib.hid (And.intro (Rs.ext RI.ext _ _ _ _ hx6 (HF3.out).1) (Rs.ext RB.ext _ _ _ _ hx6 (HF3.out).2))
    replace HCB := Lib.hid ((HCB.out).ext hx6)
    replace HCA := Lib.hid ((HCA.out).ext hx6)
    replace HCL := Lib.hid ((HCL.out).ext hx6)
    replace HR1' := Lib.hid (RRec.ext _ _ _ _ hx6 (HR1'.out))
    replace HR3' := Lib.hid (RRec.ext _ _ _ _ hx6 (HR3'.out))
    replace HRB := Lib.hid (RRec.ext _ _ _ _ hx6 (HRB.out))
    replace HRL := Lib.hid (RRec.ext _ _ _ _ hx6 (HRL.out))
    replace HA5 := Lib.hid (RRs.ext _ _ _ _ hx6 (HA5.out))
    clear hx6
    have a0 : w6.cell? ⟨Q1, 0, none⟩ = some (.int .i64 p1) := HC1.out 0 _ rfl
    have a1 : w6.cell? ⟨Q1, 1, none⟩ = some (.slice FA1 n1 fc1) := HC1.out 1 _ rfl
    have a2 : w6.cell? ⟨Q1, 2, none⟩ = some (.slice CA1 m1 cc1) := HC1.out 2 _ rfl
    have g0 : w6.cell? ⟨Q3, 0, none⟩ = some (.int .i64 p3) := HC3.out 0 _ rfl
    have g1 : w6.cell? ⟨Q3, 1, none⟩ = some (.slice FA3 n3 fc3) := HC3.out 1 _ rfl
    have g2 : w6.cell? ⟨Q3, 2, none⟩ = some (.slice CA3 m3 cc3) := HC3.out 2 _ rfl
    have b0 : w6.cell? ⟨gB, 0, none⟩ = some (.int .i64 r1.piece) := HCB.out 0 _ rfl
    have b1 : w6.cell? ⟨gB, 1, none⟩ = some (FB) := HCB.out 1 _ rfl
    have b2 : w6.cell? ⟨gB, 2, none⟩ = some (CB) := HCB.out 2 _ rfl
    have b3 : w6.cell? ⟨gB, 3, none⟩ = some (.int .i64 eB) := HCB.out 3 _ rfl
    have k0 : w6.cell? ⟨gA, 0, none⟩ = some (.slice VA n9 cA) := HCA.out 0 _ rfl
    have k1 : w6.cell? ⟨gA, 1, none⟩ = some (.int .i64 eB) := HCA.out 1 _ rfl
    have l0 : w6.cell? ⟨gL, 0, none⟩ = some (.int .i64 r3.piece) := HCL.out 0 _ rfl
    have l1 : w6.cell? ⟨gL, 1, none⟩ = some (FL) := HCL.out 1 _ rfl
    have l2 : w6.cell? ⟨gL, 2, none⟩ = some (CL) := HCL.out 2 _ rfl
    have l3 : w6.cell? ⟨gL, 3, none⟩ = some (.int .i64 eL) := HCL.out 3 _ rfl
    go_wp2_with fail
    clear a0 a1 a2 g0 g1 g2 b0 b1 b2 b3 k0 k1 l0 l1 l2 l3
    refine (sSame_any r1 r1 _ _ w6 HR1'.out HRB.out).mono ?_
    rintro e w7 ⟨rfl, hx7⟩
    rw [decide_eq_true (rfl : r1 = r1)]
    replace HX := Lib.hid ((HX.out).trans hx7)
    replace HT := Lib.hid ((HT.out).ext hx7)
    replace HG := Lib.hid (Rs.ext (Rs.ext RI.ext) _ _ _ _ hx7 (HG.out))
    replace HB := Lib.hid ((HB.out).ext hx7)
    replace HC1 := Lib.hid ((HC1.out).ext hx7)
    replace HF1 := Lib.hid (And.intro (Rs.ext RI.ext _ _ _ _ hx7 (HF1.out).1) (Rs.ext RB.ext _ _ _ _ hx7 (HF1.out).2))
    replace HV9 := Lib.hid (RRs.ext _ _ _ _ hx7 (HV9.out))
    replace HC3 := Lib.hid ((HC3.out).ext hx7)
    replace HF3 := Lib.hid (And.intro (Rs.ext RI.ext _ _ _ _ hx7 (HF3.out).1) (Rs.ext RB.ext _ _ _ _ hx7 (HF3.out).2))
    replace HCB := Lib.hid ((HCB.out).ext hx7)
    replace HCA := Lib.hid ((HCA.out).ext hx7)
    replace HCL := Lib.hid ((HCL.out).ext hx7)
    replace HR1' := Lib.hid (RRec.ext _ _ _ _ hx7 (HR1'.out))
    replace HR3' := Lib.hid (RRec.ext _ _ _ _ hx7 (HR3'.out))
    replace HRB := Lib.hid (RRec.ext _ _ _ _ hx7 (HRB.out))
    replace HRL := Lib.hid (RRec.ext _ _ _ _ hx7 (HRL.out))
    replace HA5 := Lib.hid (RRs.ext _ _ _ _ hx7 (HA5.out))
    clear hx7
    have a0 : w7.cell? ⟨Q1, 0, none⟩ = some (.int .i64 p1) := HC1.out 0 _ rfl
    have a1 : w7.cell? ⟨Q1, 1, none⟩ = some (.slice FA1 n1 fc1) := HC1.out 1 _ rfl
    have a2 : w7.cell? ⟨Q1, 2, none⟩ = some (.slice CA1 m1 cc1) := HC1.out 2 _ rfl
    have g0 : w7.cell? ⟨Q3, 0, none⟩ = some (.int .i64 p3) := HC3.out 0 _ rfl
    have g1 : w7.cell? ⟨Q3, 1, none⟩ = some (.slice FA3 n3 fc3) := HC3.out 1 _ rfl
    have g2 : w7.cell? ⟨Q3, 2, none⟩ = some (.slice CA3 m3 cc3) := HC3.out 2 _ rfl
    have b0 : w7.cell? ⟨gB, 0, none⟩ = some (.int .i64 r1.piece) := HCB.out 0 _ rfl
    have b1 : w7.cell? ⟨gB, 1, none⟩ = some (FB) := HCB.out 1 _ rfl
    have b2 : w7.cell? ⟨gB, 2, none⟩ = some (CB) := HCB.out 2 _ rfl
    have b3 : w7.cell? ⟨gB, 3, none⟩ = some (.int .i64 eB) := HCB.out 3 _ rfl
    have k0 : w7.cell? ⟨gA, 0, none⟩ = some (.slice VA n9 cA) := HCA.out 0 _ rfl
    have k1 : w7.cell? ⟨gA, 1, none⟩ = some (.int .i64 eB) := HCA.out 1 _ rfl
    have l0 : w7.cell? ⟨gL, 0, none⟩ = some (.int .i64 r3.piece) := HCL.out 0 _ rfl
    have l1 : w7.cell? ⟨gL, 1, none⟩ = some (FL) := HCL.out 1 _ rfl
    have l2 : w7.cell? ⟨gL, 2, none⟩ = some (CL) := HCL.out 2 _ rfl
    have l3 : w7.cell? ⟨gL, 3, none⟩ = some (.int .i64 eL) := HCL.out 3 _ rfl
    go_wp2_with fail
    clear a0 a1 a2 g0 g1 g2 b0 b1 b2 b3 k0 k1 l0 l1 l2 l3
    refine (sSameAll_any lA lA _ _ w7 HV9.out HA5.out).mono ?_
    rintro e w8 ⟨rfl, hx8⟩
    rw [decide_eq_true (rfl : lA = lA)]
    replace HX := Lib.hid ((HX.out).trans hx8)
    replace HT := Lib.hid ((HT.out).ext hx8)
    replace HG := Lib.hid (Rs.ext (Rs.ext RI.ext) _ _ _ _ hx8 (HG.out))
    replace HB := Lib.hid ((HB.out).ext hx8)
    replace HC1 := Lib.hid ((HC1.out).ext hx8)
    replace HF1 := Lib.hid (And.intro (Rs.ext RI.ext _ _ _ _ hx8 (HF1.out).1) (Rs.ext RB.ext _ _ _ _ hx8 (HF1.out).2))
    replace HV9 := Lib.hid (RRs.ext _ _ _ _ hx8 (HV9.out))
    replace HC3 := Lib.hid ((HC3.out).ext hx8)
    replace HF3 := Lib.hid (And.intro (Rs.ext RI.ext _ _ _ _ hx8 (HF3.out).1) (Rs.ext RB.ext _ _ _ _ hx8 (HF3.out).2))
    replace HCB := Lib.hid ((HCB.out).ext hx8)
    replace HCA := Lib.hid ((HCA.out).ext hx8)
    replace HCL := Lib.hid ((HCL.out).ext hx8)
    replace HR1' := Lib.hid (RRec.ext _ _ _ _ hx8 (HR1'.out))
    replace HR3' := Lib.hid (RRec.ext _ _ _ _ hx8 (HR3'.out))
    replace HRB := Lib.hid (RRec.ext _ _ _ _ hx8 (HRB.out))
    replace HRL := Lib.hid (RRec.ext _ _ _ _ hx8 (HRL.out))
    replace HA5 := Lib.hid (RRs.ext _ _ _ _ hx8 (HA5.out))
    clear hx8
    have a0 : w8.cell? ⟨Q1, 0, none⟩ = some (.int .i64 p1) := HC1.out 0 _ rfl
    have a1 : w8.cell? ⟨Q1, 1, none⟩ = some (.slice FA1 n1 fc1) := HC1.out 1 _ rfl
    have a2 : w8.cell? ⟨Q1, 2, none⟩ = some (.slice CA1 m1 cc1) := HC1.out 2 _ rfl
    have g0 : w8.cell? ⟨Q3, 0, none⟩ = some (.int .i64 p3) := HC3.out 0 _ rfl
    have g1 : w8.cell? ⟨Q3, 1, none⟩ = some (.slice FA3 n3 fc3) := HC3.out 1 _ rfl
    have g2 : w8.cell? ⟨Q3, 2, none⟩ = some (.slice CA3 m3 cc3) := HC3.out 2 _ rfl
    have b0 : w8.cell? ⟨gB, 0, none⟩ = some (.int .i64 r1.piece) := HCB.out 0 _ rfl
    have b1 : w8.cell? ⟨gB, 1, none⟩ = some (FB) := HCB.out 1 _ rfl
    have b2 : w8.cell? ⟨gB, 2, none⟩ = some (CB) := HCB.out 2 _ rfl
    have b3 : w8.cell? ⟨gB, 3, none⟩ = some (.int .i64 eB) := HCB.out 3 _ rfl
    have k0 : w8.cell? ⟨gA, 0, none⟩ = some (.slice VA n9 cA) := HCA.out 0 _ rfl
    have k1 : w8.cell? ⟨gA, 1, none⟩ = some (.int .i64 eB) := HCA.out 1 _ rfl
    have l0 : w8.cell? ⟨gL, 0, none⟩ = some (.int .i64 r3.piece) := HCL.out 0 _ rfl
    have l1 : w8.cell? ⟨gL, 1, none⟩ = some (FL) := HCL.out 1 _ rfl
    have l2 : w8.cell? ⟨gL, 2, none⟩ = some (CL) := HCL.out 2 _ rfl
    have l3 : w8.cell? ⟨gL, 3, none⟩ = some (.int .i64 eL) := HCL.out 3 _ rfl
    go_wp2_with fail
    clear a0 a1 a2 g0 g1 g2 b0 b1 b2 b3 k0 k1 l0 l1 l2 l3
    refine (sSame_any r3 r3 _ _ w8 HR3'.out HRL.out).mono ?_
    rintro e w9 ⟨rfl, hx9⟩
    rw [decide_eq_true (rfl : r3 = r3)]
    have HX9 := Lib.hid (HX.out.trans hx9)
    clear hx9
    go_wp2_with fail
    go_ret
    exact ⟨rfl, HX9.out⟩
end Go.Proofs.YtdmljilcbndmfaaDoor

/- ARGUMENTS that are codes read as such. -/
namespace Go.Proofs.YtdmljilcbndmfaaDoor
open Go.ChangeShapes Go.WideShapes Go.ChangeAt Go.RowKit Go.ChangeMaps Go.Deep
variable {H : Type} {enc : TypeId × Value → H} {W : World} {base : Nat}
theorem list_getD {l : List Int} {k : Nat} (h : k < l.length) : l.getD k 0 = l[k] := by rw [List.getD_eq_getElem?_getD, List.getElem?_eq_getElem h]; rfl
theorem read_rows {fuel : Nat} {v : Value} {x : DataW H × List MemPlace} (h : DataW.trod enc Tryd.prog W base (fun _ => true) true fuel 22 [v] = some x) : ∃ l, Rs (Rs RI) W v l := by
  rcases open_int_rows Tryd.underlying22 Tryd.underlying27 Tryd.underlying3 (by kernel_rfl) (by kernel_rfl) h with ⟨hcs, _⟩ | ⟨a, len, cap, A, L, C, Z, hcs, _, hl, hm, _, hx⟩
  · injection hcs with hcs _
    subst hcs
    exact ⟨[], none, 0, rfl, by simp, fun i x h => by simp at h⟩
  · injection hcs with hcs _
    subst hcs
    refine ⟨(List.range len).map fun r => (Z r).take (L r), some a, cap, by simp, by simp; unfold maxLen at hm; omega, fun i y hi => ?_⟩
    have hi1 : i < len := by have := (List.getElem?_eq_some_iff.1 hi).1; simpa using this
    have e : y = (Z i).take (L i) := by
      have := (List.getElem?_eq_some_iff.1 hi).2
      rw [← this]; simp
    subst e
    obtain ⟨h1, h2, h3, h4, h5, h6, h7⟩ := hx i (by omega)
    refine ⟨a, _, rfl, h1, A i, C i, ?_, ?_, fun k z hk => ?_⟩
    · rw [List.length_take]; congr 1; omega
    · rw [List.length_take]; unfold maxLen at h3; omega
    · have hk1 : k < ((Z i).take (L i)).length := (List.getElem?_eq_some_iff.1 hk).1
      have hk2 : k < (Z i).length := by rw [List.length_take] at hk1; omega
      have hk3 : k < C i := by omega
      have e : z = (Z i)[k] := by
        have := (List.getElem?_eq_some_iff.1 hk).2
        rw [← this, List.getElem_take]
      subst e
      have hb := bounds_i64 (h5 _ (List.getElem_mem hk2))
      cases hA : A i with
      | none => have := h6 hA; omega
      | some b =>
        have h8 := (h7 b hA).2 k hk3
        rw [list_getD hk2] at h8
        exact ⟨b, _, rfl, h8, rfl, by omega, by omega⟩
theorem cellsRows : Tryd.prog.cellsOf 22 = 1 := by kernel_rfl
theorem cellsInt : Tryd.prog.cellsOf 3 = 1 := by kernel_rfl
theorem array3 {α : Type} {cs : Array α} (h : cs.size = 3) : ∃ c0 c1 c2, cs = #[c0, c1, c2] := by
  obtain ⟨l⟩ := cs
  match l, h with
  | [c0, c1, c2], _ => exact ⟨c0, c1, c2, rfl⟩
end Go.Proofs.YtdmljilcbndmfaaDoor

/- ARGUMENTS of law 08: losses. -/
namespace Go.Proofs.YtdmljilcbndmfaaDoor
open Go.ChangeShapes Go.WideShapes Go.ChangeAt Go.RowKit Go.ChangeMaps Go.Deep
variable {H : Type} {enc : TypeId × Value → H} {W : World} {base : Nat}
theorem sized_part {P : Program} {ts : List TypeId} {ds : List (DataW H)} (h : (DataW.weightsEach P ts ds).all (· ≤ reachBytes) = true) {j : Nat} {t : TypeId} {d : DataW H} (ht : ts[j]? = some t) (hd : ds[j]? = some d) : ∀ n ∈ d.weights P t, n ≤ reachBytes := fun n hn => by
  have := List.all_eq_true.1 h n (DataW.weights_mem_each ht hd n hn)
  simpa using this
theorem bytesInts : Tryd.prog.bytesOf 27 = 24 := by kernel_rfl
/-- The form's own reach, for a list of lists. -/
theorem sized_rows {fuel : Nat} {v : Value} {x : DataW H × List MemPlace} (h : DataW.trod enc Tryd.prog W base (fun _ => true) true fuel 22 [v] = some x) (hw : ∀ n ∈ x.1.weights Tryd.prog 22, n ≤ reachBytes) {l : List (List Int)} (hl : Rs (Rs RI) W v l) : l.length ≤ 4611686018427387904 := by
  obtain ⟨A, c, rfl, _⟩ := hl.form
  rcases open_int_rows Tryd.underlying22 Tryd.underlying27 Tryd.underlying3 (by kernel_rfl) (by kernel_rfl) h with ⟨hcs, _⟩ | ⟨a, len, cap, A', L, C, Z, hcs, _, _, hm, hx, _⟩
  · injection hcs with hcs _
    injection hcs with _ h2 _
    omega
  · injection hcs with hcs _
    injection hcs with _ h2 _
    subst hx
    have := hw ((len + (cap - len)) * 24) (by simp only [DataW.weights, Tryd.underlying22, bytesInts, List.length_map, List.length_range, List.mem_cons, true_or])
    unfold reachBytes at this
    omega
set_option maxRecDepth 100000 in
/-- A code, with the number of its groups. -/
theorem trod_code {m : Nat} {c0 c1 c2 : Value} {y : DataW H × List MemPlace} (hf : DataW.trod enc Tryd.prog W base (fun _ => true) true m 24 [c0, c1, c2] = some y) (hw : ∀ n ∈ y.1.weights Tryd.prog 24, n ≤ reachBytes) :
    ∃ (a0 a2 : Int) (gs : List (List Int)), c0 = .int .i64 a0 ∧ c2 = .int .i64 a2 ∧ Rs (Rs RI) W c1 gs ∧ gs.length ≤ 4611686018427387904 := by
  obtain ⟨zs, m, _, hy, _, hlen2, hz⟩ := DataW.trod_struct Tryd.underlying24 hf
  obtain ⟨z0, z1, z2, rfl⟩ : ∃ z0 z1 z2, zs = [z0, z1, z2] := by
    match zs, hlen2 with
    | [z0, z1, z2], _ => exact ⟨z0, z1, z2, rfl⟩
  subst hy
  have g0 : DataW.trod enc Tryd.prog W base (fun _ => true) true m 3 [c0] = some z0 := by
    have := hz 0 _ rfl
    simpa [Value.cells, cellsInt] using this
  have g1 : DataW.trod enc Tryd.prog W base (fun _ => true) true m 22 [c1] = some z1 := by
    have := hz 1 _ rfl
    simpa [Value.cells, cellsRows] using this
  have g2 : DataW.trod enc Tryd.prog W base (fun _ => true) true m 3 [c2] = some z2 := by
    have := hz 2 _ rfl
    simpa [Value.cells, cellsInt] using this
  obtain ⟨gs, h1⟩ := read_rows g1
  obtain ⟨a0, ha0, _, w0⟩ := DataW.trod_int Tryd.underlying3 g0
  obtain ⟨a2, ha2, _, w2⟩ := DataW.trod_int Tryd.underlying3 g2
  injection ha0 with ha0 _
  injection ha2 with ha2 _
  refine ⟨a0, a2, gs, ha0, ha2, h1, sized_rows g1 (fun n hn => hw n ?_) h1⟩
  simp only [DataW.weights, Tryd.underlying24]
  exact DataW.weights_mem_each (j := 1) rfl rfl n hn
set_option maxRecDepth 100000 in
/-- A code as an argument of its own. -/
theorem open_code_sized {b0 : Nat} {v : Value} {d : DataW H} {ps : List MemPlace} (hval : Value.okWide Tryd.prog W .any b0 24 v) (hd : DataW.Trod enc Tryd.prog W base (fun _ => true) true 24 v d ps) (hw : ∀ n ∈ d.weights Tryd.prog 24, n ≤ reachBytes) :
    ∃ (a0 a2 : Int) (G : Value) (gs : List (List Int)), v = .agg #[.int .i64 a0, G, .int .i64 a2] ∧ Rs (Rs RI) W G gs ∧ gs.length ≤ 4611686018427387904 := by
  obtain ⟨cs, rfl, hsz⟩ := okWide_struct Tryd.underlying24 hval
  obtain ⟨c0, c1, c2, rfl⟩ := array3 (hsz.trans (by kernel_rfl))
  obtain ⟨fuel, hf⟩ := hd
  have hf2 : DataW.trod enc Tryd.prog W base (fun _ => true) true fuel 24 [c0, c1, c2] = some (d, ps) := by simpa [Value.cells] using hf
  obtain ⟨a0, a2, gs, rfl, rfl, h1, h2⟩ := trod_code hf2 hw
  exact ⟨a0, a2, c1, gs, rfl, h1, h2⟩
end Go.Proofs.YtdmljilcbndmfaaDoor
