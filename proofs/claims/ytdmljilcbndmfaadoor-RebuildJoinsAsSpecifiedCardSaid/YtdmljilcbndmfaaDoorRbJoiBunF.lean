/- What the program's functions do, step by step: part F of the texts for this claim; no condition beyond what each theorem states. -/
import Derived.Deep.Cut
import Derived.Deep.DeepCutAuto
import Derived.Deep.Matrix
import Derived.Lib.SmallJoins
import Derived.SizedLaws
import Derived.Deep.Slices
import Derived.Test.YtdmljilcbndmfaaDoorRbJoiBunA
import Derived.Test.YtdmljilcbndmfaaDoorRbJoiBunB
import Derived.Test.YtdmljilcbndmfaaDoorRbJoiBunC
import Derived.Test.YtdmljilcbndmfaaDoorRbJoiBunD
import Derived.Test.YtdmljilcbndmfaaDoorRbJoiBunE
/- THE WALK over Choices of the specification of rebuilds. -/
namespace Go.Proofs.YtdmljilcbndmfaaDoor
open Go.RowKit
/-- The address of a tail. -/
def tailA (A : Option Addr) (c l : Nat) : Option Addr := if c = l then A else A.map (·.add l)
section
variable {P : Program} {w : World}
theorem run_tail (t e : TypeId) (hu : P.underlying t = some (.slice e)) (hsz : (P.info? e).map (·.size) = some 1) (A : Option Addr) (n c l : Nat) (h1 : l ≤ n) :
    (Instr.sliceAt t (.slice A n c) (some (.int .i64 (l : Int))) none none).run P w = .ok (.slice (if c = l then A else A.map (·.add l)) (n - l) (c - l)) w := by
  have e2 : (0 : Int) ≤ (l : Int) ∧ (l : Int) ≤ (n : Int) := by omega
  cases hq : P.info? e with
  | none => simp [hq] at hsz
  | some i =>
    have hi : i.size = 1 := by simpa [hq] using hsz
    simp [Instr.sliceAt, Instr.slice, Instr.sliceBounds, Instr.sliceBound, asIntOf, run_underlying hu, sizeOf, typeInfo, hq, hi, h1]
theorem wpl_tail {ops : Array Oper} {rest : List Oper} {o : Oper} {a : Act} {Q : Exit → Act → World → Prop} (hw : Region.wanted o (yielded ops a.tmps) = true) (t e : TypeId) (x lo : Operand) (ho : o.op = .slice t x (some lo) none none)
    (hu : P.underlying t = some (.slice e)) (hsz : (P.info? e).map (·.size) = some 1) {A : Option Addr} {n c l : Nat} (hx : a.eval x = .slice A n c) (hlo : a.eval lo = .int .i64 (l : Int)) (h1 : l ≤ n)
    (hK : ∀ A', A' = tailA A c l → wpList P ops Q rest (a.put o.dst (.slice A' (n - l) (c - l))) w) : wpList P ops Q (o :: rest) a w := by
  refine wpList_step fun K hK' => ?_
  rw [if_pos hw]
  have hr := run_tail (P := P) (w := w) t e hu hsz A n c l h1
  unfold Oper.wp execOp
  simp only [ho, Option.map_some, Option.map_none, hx, hlo, hr, Sem.run_bind, Sem.run_pure, Result.andThen_ok]
  exact hK' _ _ (hK _ rfl)
end
theorem size_int8 : (Tryd.prog.info? 3).map (·.size) = some 1 := by kernel_rfl
theorem rs_tail {w : World} {A : Option Addr} {n c l : Nat} {xs : List Int} (h : Rs RI w (.slice A n c) xs) (hnc : n ≤ c) (hl : l ≤ n) : Rs RI w (.slice (tailA A c l) (n - l) (c - l)) (xs.drop l) := by
  have hn := h.len
  obtain ⟨A0, c0, e, h63, hh⟩ := h
  injection e with e1 e2 e3
  subst e1
  refine ⟨_, c - l, by rw [List.length_drop, ← e2], by rw [List.length_drop]; omega, fun i x hi => ?_⟩
  rw [List.getElem?_drop] at hi
  have hin := (List.getElem?_eq_some_iff.1 hi).1
  obtain ⟨ad, u, hA, hc, hu⟩ := hh (l + i) x hi
  subst hA
  refine ⟨ad.add l, u, by rw [tailA, if_neg (by omega)]; rfl, ?_, hu⟩
  rw [Addr.add_add]; exact hc
set_option maxHeartbeats 8000000 in
set_option maxRecDepth 100000 in
theorem sChoices_any : ∀ (many : Nat) (l : List Int) (A : Option Addr) (n c : Nat) (w : World), many ≤ 30 → n ≤ 24 → n ≤ c → Rs RI w (.slice A n c) l →
    Calls Tryd.prog 46 #[.slice A n c, .int .i64 (many : Nat)] w fun e w' => ∃ A' q c' LL, e = .returned (.slice A' q c') ∧ ChO w w' q c' A' LL (Rb.choose l many)
  | 0, l, A, n, c, w, hm, hn, hnc, hl => by
    rw [Rb.choose_zero]
    have h0 := ((Owns.start w (L := [no, no]) (by intro r hr; simp at hr; subst hr; exact ⟨rfl, rfl, rfl⟩)).new 1 #[] 3 (by simp [maxLen])).new 0 #[.slice (some ⟨w.heap.size, 0, none⟩) 0 0] 27 (by simp [maxLen])
    rw [World.size_alloc] at h0
    have H0 := Lib.hid h0
    clear h0 hl
    go_enter Tryd.func46, Tryd.ntmps46
    go_wp2_with fail
    go_ret
    refine ⟨_, _, _, rfl, _, _, H0.out, rfl, rfl, fun i hi => ?_⟩
    obtain rfl : i = 0 := by omega
    exact ⟨w.heap.size, 0, 0, rfl, rfl, List.mem_cons_self⟩
  | n' + 1, l, A, n, c, w, hm, hn, hnc, hl => by
    have IH := Lib.hid (sChoices_any n')
    have HL := Lib.hid hl
    have hlen := hl.len
    have HLN := Lib.hid hlen
    obtain ⟨M, hM⟩ : ∃ M, n' + 1 = M := ⟨_, rfl⟩
    have e0 : ((M : Int) == 0) = false := by rw [beq_eq_false_iff_ne]; omega
    have hm1 : (M : Int) - 1 = (n' : Int) := by omega
    have HMM := Lib.hid hM
    rw [hM]
    have hn30 : n' ≤ 30 := by omega
    clear hl hlen hM hm
    go_enter Tryd.func46, Tryd.ntmps46
    go_wp2_with fail
    go_loopw [5, 6] (fun v5 v6 wr => ∃ (k q oc : Nat) (oA : Option Addr), k ≤ n ∧ v6 = .int .i64 (k : Nat) ∧ v5 = .slice oA q oc ∧ Hid (∃ LL ys, ChO w wr q oc oA LL ys ∧ ys ++ Rb.choose (l.drop k) M = Rb.choose l M)) (fun _ v6 _ => n - (intOf v6).toNat)
    case atStart => exact ⟨0, 0, 0, none, Nat.zero_le _, rfl, rfl, Lib.hid ⟨[], [], ⟨[], Owns.start w (L := [nilRow 27]) (by intro r hr; simp at hr; subst hr; exact ⟨rfl, rfl, rfl⟩), rfl, rfl, fun i h => absurd h (by omega)⟩, rfl⟩⟩
    case round =>
      obtain ⟨k, q, oc, oA, hk, rfl, rfl, HI⟩ := hrel
      by_cases hlt : k < n
      · have hk1 : k + 1 ≤ n := hlt
        go_wp2_with (refine wpl_tail rfl 27 3 (.tmp 19) (.tmp 21) rfl Tryd.underlying27 size_int8 rfl rfl hk1 ?_; intro TA' hTA; have HTA := Lib.hid hTA; clear hTA)
        obtain ⟨LL, ys, hch, hy⟩ := HI.out
        obtain ⟨vs, hO, hvl, hyl, hin⟩ := hch
        have htl := rs_tail (Rs.ext RI.ext _ _ _ _ hO.ext HL.out) hnc hk1
        rw [← HTA.out] at htl
        have hkl : k < l.length := by have := HLN.out; omega
        have hlk : l.drop k = l[k] :: l.drop (k + 1) := List.drop_eq_getElem_cons hkl
        obtain ⟨al, ul, hal, hcl, hul⟩ := HL.out.at hkl
        subst hal
        have hue := hul.1
        subst hue
        obtain ⟨y, hye⟩ : ∃ y, l[k] = y := ⟨_, rfl⟩
        rw [hye] at hcl hlk
        have hys : ys ++ ((Rb.choose (l.drop (k + 1)) n').map (y :: ·) ++ Rb.choose (l.drop (k + 1)) M) = Rb.choose l M := by
          rw [← hy, hlk, ← HMM.out]; rfl
        have HYS := Lib.hid hys
        have HCL := Lib.hid hcl
        have HO := Lib.hid (And.intro hO (And.intro hvl (And.intro hyl hin)))
        have ih := IH.out (l.drop (k + 1)) TA' (n - (k + 1)) (c - (k + 1)) wr (by omega) (by omega) (by omega) htl
        clear hul hye hlk hys hcl hO hvl hyl hin htl hy HI
        refine ih.mono ?_
        clear ih
        rintro e w5 ⟨A2, nr, cr, LR, rfl, hch5⟩
        obtain ⟨RS, hRS⟩ : ∃ RS, Rb.choose (l.drop (k + 1)) n' = RS := ⟨_, rfl⟩
        have hcl2 := Rb.choose_len (l.drop (k + 1)) n'
        have h24 : 2 ^ (l.drop (k + 1)).length ≤ 2 ^ 24 := Nat.pow_le_pow_right (by decide) (by rw [List.length_drop]; have := HLN.out; omega)
        rw [hRS] at hcl2
        have hRL : ∀ s ∈ RS, s.length = n' := fun s hs => by rw [← hRS] at hs; exact ((Rb.mem_choose _ _ s).mp hs).2
        have HRL := Lib.hid hRL
        rw [hRS] at hch5 HYS
        clear hRL
        obtain ⟨vsr, hO5, hvrl, hrl, hinr⟩ := hch5
        have hnr : nr ≤ 16777216 := by omega
        clear hcl2 h24
        have hM : Owns w w5 (⟨.slice oA q oc, 27, 1, q, vs⟩ :: (LL ++ ⟨.slice A2 nr cr, 27, 1, nr, vsr⟩ :: LR)) := HO.out.1.merge hO5
        have HM := Lib.hid hM
        have HR5 := Lib.hid (And.intro hvrl (And.intro hrl hinr))
        clear hM hO5 hvrl hrl hinr hRS
        obtain ⟨wo, rfl⟩ : ∃ wo, wo = wr := ⟨_, rfl⟩
        go_wp2_with fail
        go_loopw [5, 8] (fun v5 v8 wr => ∃ (i q oc : Nat) (oA : Option Addr), i ≤ nr ∧ v8 = .int .i64 (i : Nat) ∧ v5 = .slice oA q oc ∧ Hid (∃ LL2 ys2, ChO w wr q oc oA LL2 ys2 ∧ (∀ r ∈ (⟨.slice A2 nr cr, 27, 1, nr, vsr⟩ :: LR : List LRow), r ∈ LL2) ∧ ys2 = ys ++ (RS.take i).map (y :: ·))) (fun _ v8 _ => nr - (intOf v8).toNat)
        case atStart => exact ⟨0, q, oc, oA, Nat.zero_le _, rfl, rfl, Lib.hid ⟨_, ys, ⟨vs, HM.out, HO.out.2.1, HO.out.2.2.1, fun i hi => by
          obtain ⟨g, c, m, e1, e2, e3⟩ := HO.out.2.2.2 i hi
          exact ⟨g, c, m, e1, e2, List.mem_append_left _ e3⟩⟩, fun r hr => List.mem_append_right _ hr, by simp⟩⟩
        case round =>
          obtain ⟨i, q2, oc2, oA2, hi, rfl, rfl, HJ⟩ := hrel
          by_cases hil : i < nr
          · obtain ⟨LL2, ys2, hch2, hsub, hy2⟩ := HJ.out
            obtain ⟨vs2, hO2, hvl2, hyl2, hin2⟩ := hch2
            obtain ⟨g, cx, m, e1, e2, e3⟩ := HR5.out.2.2 i hil
            obtain ⟨ra, hra, _, _⟩ := (own_rd (hO2.all _ (List.mem_cons_of_mem _ (hsub _ List.mem_cons_self)))) i _ e2
            subst hra
            have HRc : Hid (∀ (W : World) (R0 R1 R2 : LRow), Owns w W (R0 :: R1 :: R2 :: LL2) → W.cell? (ra.add i) = some (.slice (some ⟨g, 0, none⟩) m cx)) := Lib.hid fun W R0 R1 R2 h => by
              obtain ⟨ad, h1, _, h2⟩ := (own_rd (h.all _ (List.mem_cons_of_mem _ (List.mem_cons_of_mem _ (List.mem_cons_of_mem _ (hsub _ List.mem_cons_self)))))) i _ e2
              injection h1 with h1
              rw [h1]; exact h2
            have HRDc : Hid (∀ (W : World) (R0 R1 R2 : LRow), Owns w W (R0 :: R1 :: R2 :: LL2) → Rd W (some ⟨g, 0, none⟩) ((RS.getD i []).map (Value.int .i64))) := Lib.hid fun W R0 R1 R2 h => own_rd (h.all _ (List.mem_cons_of_mem _ (List.mem_cons_of_mem _ (List.mem_cons_of_mem _ (hsub _ (List.mem_cons_of_mem _ e3))))))
            have hir : i < RS.length := by have := HR5.out.2.1; omega
            have hm3 : m ≤ 1000 := by
              rw [e1, List.getD_eq_getElem?_getD, List.getElem?_eq_getElem hir, Option.getD_some, HRL.out _ (List.getElem_mem hir)]; omega
            have hq2 : q2 < 1000000000 := by
              have h1 := congrArg List.length HYS.out
              simp only [List.length_append, List.length_map] at h1
              have h2 := Rb.choose_len l M
              have h3 : 2 ^ l.length ≤ 2 ^ 24 := Nat.pow_le_pow_right (by decide) (by have := HLN.out; omega)
              have h4 : ys2.length = ys.length + min i RS.length := by rw [hy2, List.length_append, List.length_map, List.length_take]
              omega
            have HC2 := Lib.hid (And.intro hvl2 (And.intro hyl2 (And.intro hin2 (And.intro hsub (And.intro hy2 e1)))))
            have HO2 := Lib.hid hO2
            have HIR := Lib.hid hir
            clear hO2 hvl2 hyl2 hin2 hsub hy2 e2 e3 hir
            go_wp2_with fail
            refine wp_atEnd' (ch11 w wr k i n c nr cr m cx q2 oc2 oA2 (some ⟨g, 0, none⟩) al ra y (RS.getD i []) vs2 LL2 hlt hil hq2 e1.symm hm3 HCL.out HRc HRDc HO2 _ _ _ _ _ _ _ _ _ _ _ _ _ _ _ _ _ _ _ _ _ _ _ _ _ _ _ _ _ _ _ _ _ _ _ _ _ _ _ _ _ _ _ ?_)
            rintro g10 k10 g12 k12 u32 u33 u34 u35 u36 u37 u38 u39 u40 u41 u42 u43 u44 wx hOx
            have hpush := ChO.push (x := y :: RS.getD i []) HC2.out.1 HC2.out.2.1 HC2.out.2.2.1 (show 1 + m = (y :: RS.getD i []).length by rw [List.length_cons, ← e1]; omega) hOx
            have HPU := Lib.hid hpush
            clear hpush hOx e1
            go_wp2_with fail
            go_roundw
            case rel =>
              refine ⟨i + 1, q2 + 1, k12, some ⟨g12, 0, none⟩, by omega, by go_num, (by first | trivial | rfl), Lib.hid ⟨_, _, HPU.out, fun r hr => List.mem_cons_of_mem _ (HC2.out.2.2.2.1 r hr), ?_⟩⟩
              rw [HC2.out.2.2.2.2.1, List.take_add_one, List.map_append, ← List.append_assoc, List.getElem?_eq_getElem HIR.out, List.getD_eq_getElem?_getD, List.getElem?_eq_getElem HIR.out]
              rfl
            case measure => simp [intOf]; omega
          · obtain rfl : nr = i := by omega
            obtain ⟨LL2, ys2, h1, _, h3⟩ := HJ.out
            have h4 : ys2 ++ Rb.choose (l.drop (k + 1)) M = Rb.choose l M := by
              rw [h3, List.take_of_length_le (by rw [HR5.out.2.1]; exact Nat.le_refl _), List.append_assoc]
              exact HYS.out
            have HN := Lib.hid (And.intro h1 h4)
            clear h1 h3 h4
            go_wp2_with fail
            go_roundw
            case rel =>
              exact ⟨k + 1, q2, oc2, oA2, by omega, by go_num, (by first | trivial | rfl), Lib.hid ⟨LL2, ys2, HN.out.1, HN.out.2⟩⟩
            case measure => simp [intOf]; omega
      · obtain rfl : n = k := by omega
        obtain ⟨LL, ys, hch, hy⟩ := HI.out
        have hd : l.drop n = [] := List.drop_eq_nil_of_le (by rw [HLN.out]; exact Nat.le_refl _)
        rw [hd, show Rb.choose [] M = [] from by rw [← HMM.out]; rfl, List.append_nil] at hy
        rw [hy] at hch
        have HC := Lib.hid hch
        clear hch hd hy
        go_wp2_with fail
        go_ret
        first
          | exact ⟨_, _, _, LL, rfl, HC.out⟩
          | exact ⟨_, _, _, rfl, LL, HC.out⟩
end Go.Proofs.YtdmljilcbndmfaaDoor

/- THE DRAWN REGIONS of Recipe of the specification of rebuilds. -/
namespace Go.Proofs.YtdmljilcbndmfaaDoor
open Go.RowKit
theorem InvO.skip {dsts : List (Option Nat)} {vals : List Value} {a0 a : Act} {L : Nat → Bool} (h : InvO dsts vals a0 L a) (i : Nat) (hd : dsts[i]? = some none) : InvO dsts vals a0 (upd L i) a := by
  refine ⟨h.inv.skip i hd, ?_⟩
  intro j t hj hL
  unfold upd at hL
  split at hL
  · cases hL
  · exact h.old j t hj hL
theorem Owns.two3 {w0 w : World} {r s : LRow} {L : List LRow} (h : Owns w0 w (r :: s :: L)) : Owns w0 w.drew (r :: s :: no :: L) := by
  have h3 := h.drew.wider
  refine h3.perm ?_
  have e : (r :: s :: L) ++ [no] = r :: s :: (L ++ [no]) := by simp
  rw [e]
  exact List.Perm.cons _ (List.Perm.cons _ (List.perm_append_comm (l₁ := L) (l₂ := [no])))
noncomputable def rc10_code : Code := ((Tryd.f47.body.bind (regionOf 10)).getD .skip)
def rc10_dsts : List (Option Nat) := [some 40, some 41, some 42, some 43, some 44, some 45, some 46, some 47, some 48, none]
theorem rc10_apart : apartD rc10_dsts = true := by decide +kernel
set_option maxRecDepth 1000000 in
set_option maxHeartbeats 16000000 in
theorem rc10 (w0 wr : World) (B k N na cN cF : Nat) (FA : Option Addr) (fd : Addr) (v0 v2 : Value) (fs : List Value) (LL : List LRow) (fk : Int) (hfk : w0.cell? (fd.add k) = some (.int .i64 fk)) (hkN : k < N) (ha0 : na ≤ 1000) (HOO : Hid (Owns w0 wr (⟨.slice (some ⟨B, 0, none⟩) 3 3, 30, 1, 3, [v0, .slice FA na cF, v2]⟩ :: ⟨.slice FA na cF, 3, 1, na, fs⟩ :: LL))) (c0 c1 c3 c4 c5 c6 c7 c8 c11 c12 c13 c14 c15 c16 c17 c18 c19 c20 c21 c22 c23 c24 c25 c26 c27 c28 c29 c30 c31 c32 c33 c34 c35 c36 c37 c38 c39 c40 c41 c42 c43 c44 c45 c46 c47 c48 c49 c50 c51 c52 c53 c54 c55 c56 c57 c58 c59 c60 : Value) (df : List Deferred) (K : Act → World → Prop)
    (hK : ∀ (g7 k7 : Nat) (u40 u41 u42 u43 u44 u45 u46 u47 u48 : Value) (wx : World), Owns w0 wx (⟨.slice (some ⟨B, 0, none⟩) 3 3, 30, 1, 3, [v0, .slice (some ⟨g7, 0, none⟩) (na + 1) k7, v2]⟩ :: ⟨.slice (some ⟨g7, 0, none⟩) (na + 1) k7, 3, 1, na + 1, fs ++ [.int .i64 fk]⟩ :: LL) → K ⟨#[c0, c1, .slice (some fd) N cN, c3, c4, c5, c6, c7, c8, .pointer (some ⟨B, 0, none⟩), .int .i64 (k : Nat), c11, c12, c13, c14, c15, c16, c17, c18, c19, c20, c21, c22, c23, c24, c25, c26, c27, c28, c29, c30, c31, c32, c33, c34, c35, c36, c37, c38, c39, u40, u41, u42, u43, u44, u45, u46, u47, u48, c49, c50, c51, c52, c53, c54, c55, c56, c57, c58, c59, c60], df⟩ wx) :
    Code.wp Tryd.prog rc10_code (AtEnd K) ⟨#[c0, c1, .slice (some fd) N cN, c3, c4, c5, c6, c7, c8, .pointer (some ⟨B, 0, none⟩), .int .i64 (k : Nat), c11, c12, c13, c14, c15, c16, c17, c18, c19, c20, c21, c22, c23, c24, c25, c26, c27, c28, c29, c30, c31, c32, c33, c34, c35, c36, c37, c38, c39, c40, c41, c42, c43, c44, c45, c46, c47, c48, c49, c50, c51, c52, c53, c54, c55, c56, c57, c58, c59, c60], df⟩ wr := by
  conv => arg 2; whnf
  refine region_inv (by kernel_rfl) [[], [0], [], [], [2, 3], [4], [5], [1, 6], [0, 1, 2, 3, 4, 5, 6, 7], [8, 7, 7, 0, 1, 2, 3, 4, 5, 6, 7]] (by kernel_rfl) [0, 1, 2, 3, 4, 5, 6, 7, 8, 9] (by decide +kernel) (by decide +kernel) (by decide +kernel) (fun L a wc => ∃ (g6 : Nat) (g7 : Nat) (k7 : Nat), InvO rc10_dsts [.pointer (some ⟨B, 1, none⟩), .slice FA na cF, .slice (some fd) N cN, .int .i64 (k : Nat), .pointer (some (fd.add k)), .int .i64 fk, .slice (some ⟨g6, 0, none⟩) 1 1, .slice (some ⟨g7, 0, none⟩) (na + 1) k7, .pointer (some ⟨B, 1, none⟩), undef] ⟨#[c0, c1, .slice (some fd) N cN, c3, c4, c5, c6, c7, c8, .pointer (some ⟨B, 0, none⟩), .int .i64 (k : Nat), c11, c12, c13, c14, c15, c16, c17, c18, c19, c20, c21, c22, c23, c24, c25, c26, c27, c28, c29, c30, c31, c32, c33, c34, c35, c36, c37, c38, c39, c40, c41, c42, c43, c44, c45, c46, c47, c48, c49, c50, c51, c52, c53, c54, c55, c56, c57, c58, c59, c60], df⟩ L a ∧ Hid (Owns w0 wc ((if L 9 = true then ⟨.slice (some ⟨B, 0, none⟩) 3 3, 30, 1, 3, [v0, .slice (some ⟨g7, 0, none⟩) (na + 1) k7, v2]⟩ else ⟨.slice (some ⟨B, 0, none⟩) 3 3, 30, 1, 3, [v0, .slice FA na cF, v2]⟩) :: (if L 7 = true then ⟨.slice (some ⟨g7, 0, none⟩) (na + 1) k7, 3, 1, na + 1, fs ++ [.int .i64 fk]⟩ else ⟨.slice FA na cF, 3, 1, na, fs⟩) :: (if L 6 = true then ⟨.slice (some ⟨g6, 0, none⟩) 1 1, 3, 1, 1, [.int .i64 fk]⟩ else no) :: LL))) ⟨0, 0, 0, InvO.start, Lib.hid (HOO.out.two3)⟩ ?_ ?_
  · refine ⟨?_, ?_, ?_, ?_, ?_, ?_, ?_, ?_, ?_, ?_, trivial⟩
    ·
      rintro L a wc ⟨g6, g7, k7, hv, HO⟩ hL hc hd
      exact wpOp_val rfl rfl (ex_field rfl ((hv.fixed 9 (by decide)).trans rfl) (by go_simp)) ⟨g6, g7, k7, hv.put rc10_apart 0 rfl (lb rfl) (lb rfl) rfl, HO⟩
    ·
      rintro L a wc ⟨g6, g7, k7, hv, HO⟩ hL hc hd
      have n9 : L 9 = false := Bool.eq_false_iff.2 fun h => Bool.false_ne_true (hL.symm.trans (hc 7 (hc 9 h 7 (by decide)) 1 (by decide)))
      have h := HO.out
      rw [if_neg (show ¬ (L 9 = true) from by simp [n9])] at h
      have e1 : wc.cell? ⟨B, 1, none⟩ = some (.slice FA na cF) := h.cell 0 rfl 1 rfl
      exact wpOp_val rfl rfl (ex_load rfl (hv.get 0 rfl rfl (hd 0 (by decide))) (by go_simp)) ⟨g6, g7, k7, hv.put rc10_apart 1 rfl (lb rfl) (lb rfl) rfl, HO⟩
    ·
      rintro L a wc ⟨g6, g7, k7, hv, HO⟩ hL hc hd
      exact wpOp_val rfl rfl (ex_move rfl ((hv.fixed 2 (by decide)).trans rfl)) ⟨g6, g7, k7, hv.put rc10_apart 2 rfl (lb rfl) (lb rfl) rfl, HO⟩
    ·
      rintro L a wc ⟨g6, g7, k7, hv, HO⟩ hL hc hd
      exact wpOp_val rfl rfl (ex_move rfl ((hv.fixed 10 (by decide)).trans rfl)) ⟨g6, g7, k7, hv.put rc10_apart 3 rfl (lb rfl) (lb rfl) rfl, HO⟩
    ·
      rintro L a wc ⟨g6, g7, k7, hv, HO⟩ hL hc hd
      have u1 : (0 : Int) ≤ (k : Int) := by omega
      have u2 : (k : Int) < (N : Int) := by omega
      exact wpOp_val rfl rfl (ex_index rfl (hv.get 2 rfl rfl (hd 2 (by decide))) (hv.get 3 rfl rfl (hd 3 (by decide))) (by go_simp)) ⟨g6, g7, k7, hv.put rc10_apart 4 rfl (lb rfl) (lb rfl) rfl, HO⟩
    ·
      rintro L a wc ⟨g6, g7, k7, hv, HO⟩ hL hc hd
      have h0 : wc.cell? (fd.add k) = some (.int .i64 fk) := HO.out.ext.cell hfk
      exact wpOp_val rfl rfl (ex_load rfl (hv.get 4 rfl rfl (hd 4 (by decide))) (by go_simp)) ⟨g6, g7, k7, hv.put rc10_apart 5 rfl (lb rfl) (lb rfl) rfl, HO⟩
    ·
      rintro L a wc ⟨g6, g7, k7, hv, HO⟩ hL hc hd
      have h := HO.out
      rw [if_neg (show ¬ (L 6 = true) from by simp [hL])] at h
      have hn := h.new 2 #[.int .i64 fk] 3 (by simp [maxLen])
      exact wpOp_value rfl rfl (ex_build rfl Tryd.underlying27 info_int (hv.get 5 rfl rfl (hd 5 (by decide))) rfl) ⟨wc.heap.size, g7, k7, hv.put rc10_apart 6 rfl (lb rfl) (lb rfl) rfl, Lib.hid (by rw [if_pos (show upd L 6 6 = true from by simp [upd])]; exact hn)⟩
    ·
      rintro L a wc ⟨g6, g7, k7, hv, HO⟩ hL hc hd
      have n9 : L 9 = false := Bool.eq_false_iff.2 fun h => Bool.false_ne_true (hL.symm.trans (hc 9 h 7 (by decide)))
      have h6 : L 6 = true := hd 6 (by decide)
      have h := HO.out
      rw [if_neg (show ¬ (L 9 = true) from by simp [n9]), if_neg (show ¬ (L 7 = true) from by simp [hL]), if_pos h6] at h
      refine wpOp_append rfl rfl 27 3 rfl Tryd.underlying27 info_int rfl h 1 rfl (hv.get 1 rfl rfl (hd 1 (by decide))) (hv.get 6 rfl rfl h6) (h.cell 2 rfl 0 rfl) rfl (by omega) (by decide) ?_
      intro gg cc w2 hO2
      have hv := hv.reset 7 hL (.slice (some ⟨gg, 0, none⟩) (na + 1) cc)
      exact ⟨g6, gg, cc, hv.put rc10_apart 7 rfl (lb rfl) (lb rfl) rfl, Lib.hid (by rw [if_neg (show ¬ (upd L 7 9 = true) from by simp [upd, n9]), if_pos (show upd L 7 7 = true from by simp [upd]), if_pos (show upd L 7 6 = true from by simp [upd, h6])]; exact hO2)⟩
    ·
      rintro L a wc ⟨g6, g7, k7, hv, HO⟩ hL hc hd
      exact wpOp_val rfl rfl (ex_field rfl ((hv.fixed 9 (by decide)).trans rfl) (by go_simp)) ⟨g6, g7, k7, hv.put rc10_apart 8 rfl (lb rfl) (lb rfl) rfl, HO⟩
    ·
      rintro L a wc ⟨g6, g7, k7, hv, HO⟩ hL hc hd
      have h7 : L 7 = true := hd 7 (by decide)
      have h := HO.out
      rw [if_neg (show ¬ (L 9 = true) from by simp [hL]), if_pos h7] at h
      have k1 := h.cell 0 rfl 1 rfl
      have q1 := h.frozen 0 rfl 1
      have hs := h.store 0 rfl 1 (.slice (some ⟨g7, 0, none⟩) (na + 1) k7)
      exact wpOp_skip rfl rfl rfl (ex_store (w' := wc.setCell ⟨B, 1, none⟩ (.slice (some ⟨g7, 0, none⟩) (na + 1) k7)) rfl (hv.get 8 rfl rfl (hd 8 (by decide))) (hv.get 7 rfl rfl h7) (by go_simp)) ⟨g6, g7, k7, hv.skip 9 rfl, Lib.hid (by rw [if_pos (show upd L 9 9 = true from by simp [upd]), if_pos (show upd L 9 7 = true from by simp [upd, h7])]; exact hs)⟩
  · rintro L a wc ⟨g6, g7, k7, hv, HO⟩ hall
    show K a wc
    have ha := act_lit a
    rw [hv.size, hv.defers] at ha
    have hl : ∀ f : Nat → Value, ((List.range (⟨#[c0, c1, .slice (some fd) N cN, c3, c4, c5, c6, c7, c8, .pointer (some ⟨B, 0, none⟩), .int .i64 (k : Nat), c11, c12, c13, c14, c15, c16, c17, c18, c19, c20, c21, c22, c23, c24, c25, c26, c27, c28, c29, c30, c31, c32, c33, c34, c35, c36, c37, c38, c39, c40, c41, c42, c43, c44, c45, c46, c47, c48, c49, c50, c51, c52, c53, c54, c55, c56, c57, c58, c59, c60], df⟩ : Act).tmps.size).map f).toArray = #[f 0, f 1, f 2, f 3, f 4, f 5, f 6, f 7, f 8, f 9, f 10, f 11, f 12, f 13, f 14, f 15, f 16, f 17, f 18, f 19, f 20, f 21, f 22, f 23, f 24, f 25, f 26, f 27, f 28, f 29, f 30, f 31, f 32, f 33, f 34, f 35, f 36, f 37, f 38, f 39, f 40, f 41, f 42, f 43, f 44, f 45, f 46, f 47, f 48, f 49, f 50, f 51, f 52, f 53, f 54, f 55, f 56, f 57, f 58, f 59, f 60] := fun _ => rfl
    rw [hl] at ha
    simp only [hv.fixed 0 (by decide), hv.fixed 1 (by decide), hv.fixed 2 (by decide), hv.fixed 3 (by decide), hv.fixed 4 (by decide), hv.fixed 5 (by decide), hv.fixed 6 (by decide), hv.fixed 7 (by decide), hv.fixed 8 (by decide), hv.fixed 9 (by decide), hv.fixed 10 (by decide), hv.fixed 11 (by decide), hv.fixed 12 (by decide), hv.fixed 13 (by decide), hv.fixed 14 (by decide), hv.fixed 15 (by decide), hv.fixed 16 (by decide), hv.fixed 17 (by decide), hv.fixed 18 (by decide), hv.fixed 19 (by decide), hv.fixed 20 (by decide), hv.fixed 21 (by decide), hv.fixed 22 (by decide), hv.fixed 23 (by decide), hv.fixed 24 (by decide), hv.fixed 25 (by decide), hv.fixed 26 (by decide), hv.fixed 27 (by decide), hv.fixed 28 (by decide), hv.fixed 29 (by decide), hv.fixed 30 (by decide), hv.fixed 31 (by decide), hv.fixed 32 (by decide), hv.fixed 33 (by decide), hv.fixed 34 (by decide), hv.fixed 35 (by decide), hv.fixed 36 (by decide), hv.fixed 37 (by decide), hv.fixed 38 (by decide), hv.fixed 39 (by decide), hv.fixed 49 (by decide), hv.fixed 50 (by decide), hv.fixed 51 (by decide), hv.fixed 52 (by decide), hv.fixed 53 (by decide), hv.fixed 54 (by decide), hv.fixed 55 (by decide), hv.fixed 56 (by decide), hv.fixed 57 (by decide), hv.fixed 58 (by decide), hv.fixed 59 (by decide), hv.fixed 60 (by decide)] at ha
    rw [ha]
    have hO := HO.out
    rw [if_pos (hall 9 (by decide)), if_pos (hall 7 (by decide))] at hO
    exact hK g7 k7 _ _ _ _ _ _ _ _ _ wc (hO.sublist (by simp))
noncomputable def rc11_code : Code := ((Tryd.f47.body.bind (regionOf 11)).getD .skip)
def rc11_dsts : List (Option Nat) := [some 49, some 50, some 51, some 52, some 53, some 54, some 55, some 56, some 57, some 58, none]
theorem rc11_apart : apartD rc11_dsts = true := by decide +kernel
set_option maxRecDepth 1000000 in
set_option maxHeartbeats 16000000 in
theorem rc11 (w0 wr : World) (B k N na cN cF : Nat) (FA : Option Addr) (fd : Addr) (v0 v1 : Value) (fs : List Value) (LL : List LRow) (E : Nat) (x : UInt8) (HE : Hid (∀ (W : World) (R0 R1 R2 : LRow), Owns w0 W (R0 :: R1 :: R2 :: LL) → W.cell? ⟨E, 0, none⟩ = some (.slice (some fd) N cN) ∧ W.cell? (fd.add k) = some (bv x))) (hkN : k < N) (ha0 : na ≤ 1000) (HOO : Hid (Owns w0 wr (⟨.slice (some ⟨B, 0, none⟩) 3 3, 30, 1, 3, [v0, v1, .slice FA na cF]⟩ :: ⟨.slice FA na cF, 5, 1, na, fs⟩ :: LL))) (c0 c1 c2 c3 c4 c5 c6 c7 c11 c12 c13 c14 c15 c16 c17 c18 c19 c20 c21 c22 c23 c24 c25 c26 c27 c28 c29 c30 c31 c32 c33 c34 c35 c36 c37 c38 c39 c40 c41 c42 c43 c44 c45 c46 c47 c48 c49 c50 c51 c52 c53 c54 c55 c56 c57 c58 c59 c60 : Value) (df : List Deferred) (K : Act → World → Prop)
    (hK : ∀ (g7 k7 : Nat) (u49 u50 u51 u52 u53 u54 u55 u56 u57 u58 : Value) (wx : World), Owns w0 wx (⟨.slice (some ⟨B, 0, none⟩) 3 3, 30, 1, 3, [v0, v1, .slice (some ⟨g7, 0, none⟩) (na + 1) k7]⟩ :: ⟨.slice (some ⟨g7, 0, none⟩) (na + 1) k7, 5, 1, na + 1, fs ++ [bv x]⟩ :: LL) → K ⟨#[c0, c1, c2, c3, c4, c5, c6, c7, .pointer (some ⟨E, 0, none⟩), .pointer (some ⟨B, 0, none⟩), .int .i64 (k : Nat), c11, c12, c13, c14, c15, c16, c17, c18, c19, c20, c21, c22, c23, c24, c25, c26, c27, c28, c29, c30, c31, c32, c33, c34, c35, c36, c37, c38, c39, c40, c41, c42, c43, c44, c45, c46, c47, c48, u49, u50, u51, u52, u53, u54, u55, u56, u57, u58, c59, c60], df⟩ wx) :
    Code.wp Tryd.prog rc11_code (AtEnd K) ⟨#[c0, c1, c2, c3, c4, c5, c6, c7, .pointer (some ⟨E, 0, none⟩), .pointer (some ⟨B, 0, none⟩), .int .i64 (k : Nat), c11, c12, c13, c14, c15, c16, c17, c18, c19, c20, c21, c22, c23, c24, c25, c26, c27, c28, c29, c30, c31, c32, c33, c34, c35, c36, c37, c38, c39, c40, c41, c42, c43, c44, c45, c46, c47, c48, c49, c50, c51, c52, c53, c54, c55, c56, c57, c58, c59, c60], df⟩ wr := by
  conv => arg 2; whnf
  refine region_inv (by kernel_rfl) [[], [0], [], [2], [], [3, 4], [5], [6], [1, 7], [0, 1, 2, 3, 4, 5, 6, 7, 8], [9, 8, 8, 0, 1, 2, 3, 4, 5, 6, 7, 8]] (by kernel_rfl) [0, 1, 2, 3, 4, 5, 6, 7, 8, 9, 10] (by decide +kernel) (by decide +kernel) (by decide +kernel) (fun L a wc => ∃ (g6 : Nat) (g7 : Nat) (k7 : Nat), InvO rc11_dsts [.pointer (some ⟨B, 2, none⟩), .slice FA na cF, .pointer (some ⟨E, 0, none⟩), .slice (some fd) N cN, .int .i64 (k : Nat), .pointer (some (fd.add k)), bv x, .slice (some ⟨g6, 0, none⟩) 1 1, .slice (some ⟨g7, 0, none⟩) (na + 1) k7, .pointer (some ⟨B, 2, none⟩), undef] ⟨#[c0, c1, c2, c3, c4, c5, c6, c7, .pointer (some ⟨E, 0, none⟩), .pointer (some ⟨B, 0, none⟩), .int .i64 (k : Nat), c11, c12, c13, c14, c15, c16, c17, c18, c19, c20, c21, c22, c23, c24, c25, c26, c27, c28, c29, c30, c31, c32, c33, c34, c35, c36, c37, c38, c39, c40, c41, c42, c43, c44, c45, c46, c47, c48, c49, c50, c51, c52, c53, c54, c55, c56, c57, c58, c59, c60], df⟩ L a ∧ Hid (Owns w0 wc ((if L 10 = true then ⟨.slice (some ⟨B, 0, none⟩) 3 3, 30, 1, 3, [v0, v1, .slice (some ⟨g7, 0, none⟩) (na + 1) k7]⟩ else ⟨.slice (some ⟨B, 0, none⟩) 3 3, 30, 1, 3, [v0, v1, .slice FA na cF]⟩) :: (if L 8 = true then ⟨.slice (some ⟨g7, 0, none⟩) (na + 1) k7, 5, 1, na + 1, fs ++ [bv x]⟩ else ⟨.slice FA na cF, 5, 1, na, fs⟩) :: (if L 7 = true then ⟨.slice (some ⟨g6, 0, none⟩) 1 1, 5, 1, 1, [bv x]⟩ else no) :: LL))) ⟨0, 0, 0, InvO.start, Lib.hid (HOO.out.two3)⟩ ?_ ?_
  · refine ⟨?_, ?_, ?_, ?_, ?_, ?_, ?_, ?_, ?_, ?_, ?_, trivial⟩
    ·
      rintro L a wc ⟨g6, g7, k7, hv, HO⟩ hL hc hd
      exact wpOp_val rfl rfl (ex_field rfl ((hv.fixed 9 (by decide)).trans rfl) (by go_simp)) ⟨g6, g7, k7, hv.put rc11_apart 0 rfl (lb rfl) (lb rfl) rfl, HO⟩
    ·
      rintro L a wc ⟨g6, g7, k7, hv, HO⟩ hL hc hd
      have n10 : L 10 = false := Bool.eq_false_iff.2 fun h => Bool.false_ne_true (hL.symm.trans (hc 8 (hc 10 h 8 (by decide)) 1 (by decide)))
      have h := HO.out
      rw [if_neg (show ¬ (L 10 = true) from by simp [n10])] at h
      have e1 : wc.cell? ⟨B, 2, none⟩ = some (.slice FA na cF) := h.cell 0 rfl 2 rfl
      exact wpOp_val rfl rfl (ex_load rfl (hv.get 0 rfl rfl (hd 0 (by decide))) (by go_simp)) ⟨g6, g7, k7, hv.put rc11_apart 1 rfl (lb rfl) (lb rfl) rfl, HO⟩
    ·
      rintro L a wc ⟨g6, g7, k7, hv, HO⟩ hL hc hd
      exact wpOp_val rfl rfl (ex_field rfl ((hv.fixed 8 (by decide)).trans rfl) (by go_simp)) ⟨g6, g7, k7, hv.put rc11_apart 2 rfl (lb rfl) (lb rfl) rfl, HO⟩
    ·
      rintro L a wc ⟨g6, g7, k7, hv, HO⟩ hL hc hd
      have h0 : wc.cell? ⟨E, 0, none⟩ = some (.slice (some fd) N cN) := (HE.out _ _ _ _ HO.out).1
      exact wpOp_val rfl rfl (ex_load rfl (hv.get 2 rfl rfl (hd 2 (by decide))) (by go_simp)) ⟨g6, g7, k7, hv.put rc11_apart 3 rfl (lb rfl) (lb rfl) rfl, HO⟩
    ·
      rintro L a wc ⟨g6, g7, k7, hv, HO⟩ hL hc hd
      exact wpOp_val rfl rfl (ex_move rfl ((hv.fixed 10 (by decide)).trans rfl)) ⟨g6, g7, k7, hv.put rc11_apart 4 rfl (lb rfl) (lb rfl) rfl, HO⟩
    ·
      rintro L a wc ⟨g6, g7, k7, hv, HO⟩ hL hc hd
      have u1 : (0 : Int) ≤ (k : Int) := by omega
      have u2 : (k : Int) < (N : Int) := by omega
      exact wpOp_val rfl rfl (ex_index rfl (hv.get 3 rfl rfl (hd 3 (by decide))) (hv.get 4 rfl rfl (hd 4 (by decide))) (by go_simp)) ⟨g6, g7, k7, hv.put rc11_apart 5 rfl (lb rfl) (lb rfl) rfl, HO⟩
    ·
      rintro L a wc ⟨g6, g7, k7, hv, HO⟩ hL hc hd
      have h0 : wc.cell? (fd.add k) = some (bv x) := (HE.out _ _ _ _ HO.out).2
      exact wpOp_val rfl rfl (ex_load rfl (hv.get 5 rfl rfl (hd 5 (by decide))) (by go_simp)) ⟨g6, g7, k7, hv.put rc11_apart 6 rfl (lb rfl) (lb rfl) rfl, HO⟩
    ·
      rintro L a wc ⟨g6, g7, k7, hv, HO⟩ hL hc hd
      have h := HO.out
      rw [if_neg (show ¬ (L 7 = true) from by simp [hL])] at h
      have hn := h.new 2 #[bv x] 5 (by simp [maxLen])
      exact wpOp_value rfl rfl (ex_build rfl Tryd.underlying28 info_u8 (hv.get 6 rfl rfl (hd 6 (by decide))) rfl) ⟨wc.heap.size, g7, k7, hv.put rc11_apart 7 rfl (lb rfl) (lb rfl) rfl, Lib.hid (by rw [if_pos (show upd L 7 7 = true from by simp [upd])]; exact hn)⟩
    ·
      rintro L a wc ⟨g6, g7, k7, hv, HO⟩ hL hc hd
      have n10 : L 10 = false := Bool.eq_false_iff.2 fun h => Bool.false_ne_true (hL.symm.trans (hc 10 h 8 (by decide)))
      have h7 : L 7 = true := hd 7 (by decide)
      have h := HO.out
      rw [if_neg (show ¬ (L 10 = true) from by simp [n10]), if_neg (show ¬ (L 8 = true) from by simp [hL]), if_pos h7] at h
      refine wpOp_append rfl rfl 28 5 rfl Tryd.underlying28 info_u8 rfl h 1 rfl (hv.get 1 rfl rfl (hd 1 (by decide))) (hv.get 7 rfl rfl h7) (h.cell 2 rfl 0 rfl) rfl (by omega) (by decide) ?_
      intro gg cc w2 hO2
      have hv := hv.reset 8 hL (.slice (some ⟨gg, 0, none⟩) (na + 1) cc)
      exact ⟨g6, gg, cc, hv.put rc11_apart 8 rfl (lb rfl) (lb rfl) rfl, Lib.hid (by rw [if_neg (show ¬ (upd L 8 10 = true) from by simp [upd, n10]), if_pos (show upd L 8 8 = true from by simp [upd]), if_pos (show upd L 8 7 = true from by simp [upd, h7])]; exact hO2)⟩
    ·
      rintro L a wc ⟨g6, g7, k7, hv, HO⟩ hL hc hd
      exact wpOp_val rfl rfl (ex_field rfl ((hv.fixed 9 (by decide)).trans rfl) (by go_simp)) ⟨g6, g7, k7, hv.put rc11_apart 9 rfl (lb rfl) (lb rfl) rfl, HO⟩
    ·
      rintro L a wc ⟨g6, g7, k7, hv, HO⟩ hL hc hd
      have h8 : L 8 = true := hd 8 (by decide)
      have h := HO.out
      rw [if_neg (show ¬ (L 10 = true) from by simp [hL]), if_pos h8] at h
      have k1 := h.cell 0 rfl 2 rfl
      have q1 := h.frozen 0 rfl 2
      have hs := h.store 0 rfl 2 (.slice (some ⟨g7, 0, none⟩) (na + 1) k7)
      exact wpOp_skip rfl rfl rfl (ex_store (w' := wc.setCell ⟨B, 2, none⟩ (.slice (some ⟨g7, 0, none⟩) (na + 1) k7)) rfl (hv.get 9 rfl rfl (hd 9 (by decide))) (hv.get 8 rfl rfl h8) (by go_simp)) ⟨g6, g7, k7, hv.skip 10 rfl, Lib.hid (by rw [if_pos (show upd L 10 10 = true from by simp [upd]), if_pos (show upd L 10 8 = true from by simp [upd, h8])]; exact hs)⟩
  · rintro L a wc ⟨g6, g7, k7, hv, HO⟩ hall
    show K a wc
    have ha := act_lit a
    rw [hv.size, hv.defers] at ha
    have hl : ∀ f : Nat → Value, ((List.range (⟨#[c0, c1, c2, c3, c4, c5, c6, c7, .pointer (some ⟨E, 0, none⟩), .pointer (some ⟨B, 0, none⟩), .int .i64 (k : Nat), c11, c12, c13, c14, c15, c16, c17, c18, c19, c20, c21, c22, c23, c24, c25, c26, c27, c28, c29, c30, c31, c32, c33, c34, c35, c36, c37, c38, c39, c40, c41, c42, c43, c44, c45, c46, c47, c48, c49, c50, c51, c52, c53, c54, c55, c56, c57, c58, c59, c60], df⟩ : Act).tmps.size).map f).toArray = #[f 0, f 1, f 2, f 3, f 4, f 5, f 6, f 7, f 8, f 9, f 10, f 11, f 12, f 13, f 14, f 15, f 16, f 17, f 18, f 19, f 20, f 21, f 22, f 23, f 24, f 25, f 26, f 27, f 28, f 29, f 30, f 31, f 32, f 33, f 34, f 35, f 36, f 37, f 38, f 39, f 40, f 41, f 42, f 43, f 44, f 45, f 46, f 47, f 48, f 49, f 50, f 51, f 52, f 53, f 54, f 55, f 56, f 57, f 58, f 59, f 60] := fun _ => rfl
    rw [hl] at ha
    simp only [hv.fixed 0 (by decide), hv.fixed 1 (by decide), hv.fixed 2 (by decide), hv.fixed 3 (by decide), hv.fixed 4 (by decide), hv.fixed 5 (by decide), hv.fixed 6 (by decide), hv.fixed 7 (by decide), hv.fixed 8 (by decide), hv.fixed 9 (by decide), hv.fixed 10 (by decide), hv.fixed 11 (by decide), hv.fixed 12 (by decide), hv.fixed 13 (by decide), hv.fixed 14 (by decide), hv.fixed 15 (by decide), hv.fixed 16 (by decide), hv.fixed 17 (by decide), hv.fixed 18 (by decide), hv.fixed 19 (by decide), hv.fixed 20 (by decide), hv.fixed 21 (by decide), hv.fixed 22 (by decide), hv.fixed 23 (by decide), hv.fixed 24 (by decide), hv.fixed 25 (by decide), hv.fixed 26 (by decide), hv.fixed 27 (by decide), hv.fixed 28 (by decide), hv.fixed 29 (by decide), hv.fixed 30 (by decide), hv.fixed 31 (by decide), hv.fixed 32 (by decide), hv.fixed 33 (by decide), hv.fixed 34 (by decide), hv.fixed 35 (by decide), hv.fixed 36 (by decide), hv.fixed 37 (by decide), hv.fixed 38 (by decide), hv.fixed 39 (by decide), hv.fixed 40 (by decide), hv.fixed 41 (by decide), hv.fixed 42 (by decide), hv.fixed 43 (by decide), hv.fixed 44 (by decide), hv.fixed 45 (by decide), hv.fixed 46 (by decide), hv.fixed 47 (by decide), hv.fixed 48 (by decide), hv.fixed 59 (by decide), hv.fixed 60 (by decide)] at ha
    rw [ha]
    have hO := HO.out
    rw [if_pos (hall 10 (by decide)), if_pos (hall 8 (by decide))] at hO
    exact hK g7 k7 _ _ _ _ _ _ _ _ _ _ wc (hO.sublist (by simp))
end Go.Proofs.YtdmljilcbndmfaaDoor

/- THE DRAWN REGION 2 of Recipe of the specification of rebuilds. -/
namespace Go.Proofs.YtdmljilcbndmfaaDoor
open Go.RowKit
theorem ex_alloc {P : Program} {w w' : World} {a : Act} {o : Oper} {t : TypeId} {v : Value} (ho : o.op = .alloc t) (hr : (Instr.alloc t true (.tuple #[])).run P w = .ok v w') : (execOp a.eval o).run P w = .ok (.value v) w' := by
  unfold execOp
  simp only [ho, hr, Sem.run_bind, Sem.run_pure, Result.andThen_ok]
/-- Bytes stay while a cell turns that holds none. -/
theorem Rs.farT {w : World} {v u u' : Value} {ad : Addr} {x : List UInt8} (h : Rs RB w v x) (h0 : w.cell? ad = some u) (hu : ∀ b : UInt8, u ≠ bv b) : Rs RB (w.setCell ad u') v x := by
  obtain ⟨A, c, rfl, hl, h⟩ := h
  refine ⟨A, c, rfl, hl, fun i y hi => ?_⟩
  obtain ⟨bd, z, h1, h2, h3⟩ := h i y hi
  refine ⟨bd, z, h1, ?_, h3⟩
  rw [World.cell?_setCell_other]
  · exact h2
  · intro e
    rw [← e, h0] at h2
    injection h2 with h2
    exact hu y (h2.trans h3)
theorem Owns.start1 (w : World) : Owns w w.drew [no] := (Owns.start w (L := [no]) (by intro r hr; simp at hr; subst hr; exact ⟨rfl, rfl, rfl⟩)).drew
/-- What the solving of a row answers, by letters. -/
def ExpAt (m : Mx.Mat) (b : List UInt8) (er : Int) (nx : Nat) (xx : List UInt8) : Prop :=
  (if (Mx.expr m b).isSome then (0 : Int) else 8) = er ∧ (Mx.expr m b).getD [] = xx ∧ xx.length = nx ∧ (∀ r ∈ m, r.length = b.length) ∧ 0 < b.length ∧ b.length ≤ 48 ∧ m.length ≤ 48
theorem s5Express_as (m : Mx.Mat) (b : List UInt8) (er : Int) (nx : Nat) (xx : List UInt8) (vm vb : Value) (w : World) (hM : Rs (Rs RB) w vm m) (hB : Rs RB w vb b) (he : ExpAt m b er nx xx) :
    Calls Tryd.prog 76 #[vm, vb] w fun e w' => ∃ A c, e = .returned (.agg #[.slice A nx c, .int .i64 er]) ∧ Ext w w' ∧ Rs RB w' (.slice A nx c) xx := by
  obtain ⟨h1, h2, h3, h4, h5, h6, h7⟩ := he
  refine (s5Express_any m b vm vb w hM hB h4 h5 h6 h7).mono ?_
  rintro e w' ⟨X, rfl, hX, hx⟩
  rw [h2] at hX
  obtain ⟨A, c, rfl, _⟩ := hX.form
  rw [h1]
  rw [h3] at hX ⊢
  exact ⟨A, c, rfl, hx, hX⟩
theorem sRows_as (d gl : Int) (gs : List (List Int)) (l : List Int) (N : Nat) (G v : Value) (w : World) (hG : Rs (Rs RI) w G gs) (hn : gs.length ≤ 4611686018427387904) (hl : Rs RI w v l) (hN : l.length = N) (hl48 : l.length ≤ 48) (hfm : ∀ i ∈ l, 0 ≤ i ∧ i < ((Cd.rowsOf d gs gl).length : Int)) :
    Calls Tryd.prog 75 #[.agg #[.int .i64 d, G, .int .i64 gl], v] w fun e w' => ∃ A c, e = .returned (.slice A N c) ∧ Ext w w' ∧ Rs (Rs RB) w' (.slice A N c) (Rb.rowsAt (Cd.rowsOf d gs gl) l) := by
  refine (sRows_any d gl gs l G v w hG hn hl hl48 hfm).mono ?_
  rintro e w' ⟨v', rfl, h1, h2⟩
  obtain ⟨A, c, rfl, _⟩ := h1.form
  have e : (Rb.rowsAt (Cd.rowsOf d gs gl) l).length = N := by rw [Rb.rowsAt, List.length_map, hN]
  rw [e] at h1 ⊢
  exact ⟨A, c, rfl, h2, h1⟩
noncomputable def rc2_code : Code := ((Tryd.f47.body.bind (regionOf 2)).getD .skip)
def rc2_dsts : List (Option Nat) := [some 15, some 16, some 17, some 18, some 19, some 20, some 21, some 8, none]
theorem rc2_apart : apartD rc2_dsts = true := by decide +kernel
set_option maxRecDepth 1000000 in
set_option maxHeartbeats 16000000 in
theorem rc2 (wr : World) (C : Nat) (GA FA BA : Option Addr) (ra : Addr) (ng Gc N cN cr D cb nx : Nat) (d gl er : Int) (gs : List (List Int)) (f : List Int) (b xx : List UInt8) (k0 : wr.cell? ⟨C, 0, none⟩ = some (.int .i64 d)) (k1 : wr.cell? ⟨C, 1, none⟩ = some (.slice GA ng Gc)) (k2 : wr.cell? ⟨C, 2, none⟩ = some (.int .i64 gl)) (kr : wr.cell? ra = some (.slice BA D cb))
  (HG : Hid (Rs (Rs RI) wr (.slice GA ng Gc) gs ∧ gs.length ≤ 4611686018427387904)) (HF : Hid (Rs RI wr (.slice FA N cN) f ∧ f.length = N ∧ f.length ≤ 48 ∧ ∀ i ∈ f, 0 ≤ i ∧ i < ((Cd.rowsOf d gs gl).length : Int))) (HB : Hid (Rs RB wr (.slice BA D cb) b)) (HE : Hid (ExpAt (Rb.rowsAt (Cd.rowsOf d gs gl) f) b er nx xx)) (c0 c1 c4 c5 c6 c8 c9 c10 c11 c12 c13 c14 c15 c16 c17 c18 c19 c20 c21 c22 c23 c24 c25 c26 c27 c28 c29 c30 c31 c32 c33 c34 c35 c36 c37 c38 c39 c40 c41 c42 c43 c44 c45 c46 c47 c48 c49 c50 c51 c52 c53 c54 c55 c56 c57 c58 c59 c60 : Value) (df : List Deferred) (K : Act → World → Prop)
    (hK : ∀ (XA : Option Addr) (cX gE : Nat) (u15 u16 u17 u18 u19 u20 u21 : Value) (wx : World), (Owns wr wx [⟨.slice (some ⟨gE, 0, none⟩) 2 2, 117, 1, 2, [.slice XA nx cX, .int .i64 er]⟩] ∧ Rs RB wx (.slice XA nx cX) xx) → K ⟨#[c0, c1, .slice FA N cN, .pointer (some ⟨C, 0, none⟩), c4, c5, c6, .slice (some ra) 1 cr, .pointer (some ⟨gE, 0, none⟩), c9, c10, c11, c12, c13, c14, u15, u16, u17, u18, u19, u20, u21, c22, c23, c24, c25, c26, c27, c28, c29, c30, c31, c32, c33, c34, c35, c36, c37, c38, c39, c40, c41, c42, c43, c44, c45, c46, c47, c48, c49, c50, c51, c52, c53, c54, c55, c56, c57, c58, c59, c60], df⟩ wx) :
    Code.wp Tryd.prog rc2_code (AtEnd K) ⟨#[c0, c1, .slice FA N cN, .pointer (some ⟨C, 0, none⟩), c4, c5, c6, .slice (some ra) 1 cr, c8, c9, c10, c11, c12, c13, c14, c15, c16, c17, c18, c19, c20, c21, c22, c23, c24, c25, c26, c27, c28, c29, c30, c31, c32, c33, c34, c35, c36, c37, c38, c39, c40, c41, c42, c43, c44, c45, c46, c47, c48, c49, c50, c51, c52, c53, c54, c55, c56, c57, c58, c59, c60], df⟩ wr := by
  conv => arg 2; whnf
  refine region_inv (by kernel_rfl) [[], [], [0, 1], [], [3], [4], [2, 5, 2], [], [7, 6, 6, 0, 1, 2, 3, 4, 5, 6, 7]] (by kernel_rfl) [0, 1, 2, 3, 4, 5, 6, 7, 8] (by decide +kernel) (by decide +kernel) (by decide +kernel) (fun L a wc => ∃ (RA : Option Addr) (rc : Nat) (XA : Option Addr) (cX : Nat) (gE : Nat), InvO rc2_dsts [.agg #[.int .i64 d, .slice GA ng Gc, .int .i64 gl], .slice FA N cN, .slice RA N rc, .slice (some ra) 1 cr, .pointer (some ra), .slice BA D cb, .agg #[.slice XA nx cX, .int .i64 er], .pointer (some ⟨gE, 0, none⟩), undef] ⟨#[c0, c1, .slice FA N cN, .pointer (some ⟨C, 0, none⟩), c4, c5, c6, .slice (some ra) 1 cr, c8, c9, c10, c11, c12, c13, c14, c15, c16, c17, c18, c19, c20, c21, c22, c23, c24, c25, c26, c27, c28, c29, c30, c31, c32, c33, c34, c35, c36, c37, c38, c39, c40, c41, c42, c43, c44, c45, c46, c47, c48, c49, c50, c51, c52, c53, c54, c55, c56, c57, c58, c59, c60], df⟩ L a ∧ Hid (Owns wr wc [(if L 7 = true then (if L 8 = true then ⟨.slice (some ⟨gE, 0, none⟩) 2 2, 117, 1, 2, [.slice XA nx cX, .int .i64 er]⟩ else ⟨.slice (some ⟨gE, 0, none⟩) 2 2, 117, 1, 2, [.slice none 0 0, .int .i64 0]⟩) else no)] ∧ (L 2 = true → L 8 = false → Rs (Rs RB) wc (.slice RA N rc) (Rb.rowsAt (Cd.rowsOf d gs gl) f)) ∧ (L 6 = true → Rs RB wc (.slice XA nx cX) xx))) ⟨none, 0, none, 0, 0, InvO.start, Lib.hid (And.intro (Owns.start1 wr) (And.intro (fun h => by cases h) fun h => by cases h))⟩ ?_ ?_
  · refine ⟨?_, ?_, ?_, ?_, ?_, ?_, ?_, ?_, ?_, trivial⟩
    ·
      rintro L a wc ⟨RA, rc, XA, cX, gE, hv, HO⟩ hL hc hd
      have h0 : wc.cell? ⟨C, 0, none⟩ = some (.int .i64 d) := HO.out.1.ext.cell k0
      have h1 : wc.cell? ⟨C, 1, none⟩ = some (.slice GA ng Gc) := HO.out.1.ext.cell k1
      have h2 : wc.cell? ⟨C, 2, none⟩ = some (.int .i64 gl) := HO.out.1.ext.cell k2
      exact wpOp_val rfl rfl (ex_load rfl ((hv.fixed 3 (by decide)).trans rfl) (by go_simp)) ⟨RA, rc, XA, cX, gE, hv.put rc2_apart 0 rfl (lb rfl) (lb rfl) rfl, HO⟩
    ·
      rintro L a wc ⟨RA, rc, XA, cX, gE, hv, HO⟩ hL hc hd
      exact wpOp_val rfl rfl (ex_move rfl ((hv.fixed 2 (by decide)).trans rfl)) ⟨RA, rc, XA, cX, gE, hv.put rc2_apart 1 rfl (lb rfl) (lb rfl) rfl, HO⟩
    ·
      rintro L a wc ⟨RA, rc, XA, cX, gE, hv, HO⟩ hL hc hd
      refine wpOp_call (R := fun v w1 => ∃ A c, v = .slice A N c ∧ Ext wc w1 ∧ Rs (Rs RB) w1 (.slice A N c) (Rb.rowsAt (Cd.rowsOf d gs gl) f)) rfl rfl (ex_call rfl rfl (map2c (hv.get 0 rfl rfl (hd 0 (by decide))) (hv.get 1 rfl rfl (hd 1 (by decide)))) (enters_of Tryd.func75 (by kernel_rfl) rfl _ _)) ((sRows_as d gl gs f N (.slice GA ng Gc) (.slice FA N cN) wc (Rs.ext (Rs.ext RI.ext) _ _ _ _ HO.out.1.ext HG.out.1) HG.out.2 (Rs.ext RI.ext _ _ _ _ HO.out.1.ext HF.out.1) HF.out.2.1 HF.out.2.2.1 HF.out.2.2.2).mono (fun e w' h => by obtain ⟨A, c, rfl, hx, hz⟩ := h; exact ⟨_, rfl, A, c, rfl, hx, hz⟩)) ?_
      rintro v w' ⟨RA2, rc2, rfl, hx, hz⟩
      exact ⟨RA2, rc2, XA, cX, gE, hv.put rc2_apart 2 rfl (lb rfl) (lb rfl) rfl, Lib.hid (And.intro (HO.out.1.next hx) (And.intro (fun _ _ => hz) fun h6 => Rs.ext RB.ext _ _ _ _ hx (HO.out.2.2 h6)))⟩
    ·
      rintro L a wc ⟨RA, rc, XA, cX, gE, hv, HO⟩ hL hc hd
      exact wpOp_val rfl rfl (ex_move rfl ((hv.fixed 7 (by decide)).trans rfl)) ⟨RA, rc, XA, cX, gE, hv.put rc2_apart 3 rfl (lb rfl) (lb rfl) rfl, HO⟩
    ·
      rintro L a wc ⟨RA, rc, XA, cX, gE, hv, HO⟩ hL hc hd
      have u1 : (0 : Int) ≤ ((0 : Nat) : Int) := by omega
      have u2 : ((0 : Nat) : Int) < ((1 : Nat) : Int) := by omega
      exact wpOp_val rfl rfl (ex_index rfl (hv.get 3 rfl rfl (hd 3 (by decide))) rfl (by go_simp)) ⟨RA, rc, XA, cX, gE, hv.put rc2_apart 4 rfl (lb rfl) (lb rfl) rfl, HO⟩
    ·
      rintro L a wc ⟨RA, rc, XA, cX, gE, hv, HO⟩ hL hc hd
      have h0 : wc.cell? (ra) = some (.slice BA D cb) := HO.out.1.ext.cell kr
      exact wpOp_val rfl rfl (ex_load rfl (hv.get 4 rfl rfl (hd 4 (by decide))) (by go_simp)) ⟨RA, rc, XA, cX, gE, hv.put rc2_apart 5 rfl (lb rfl) (lb rfl) rfl, HO⟩
    ·
      rintro L a wc ⟨RA, rc, XA, cX, gE, hv, HO⟩ hL hc hd
      have n8 : L 8 = false := Bool.eq_false_iff.2 fun h => Bool.false_ne_true (hL.symm.trans (hc 8 h 6 (by decide)))
      refine wpOp_call (R := fun v w1 => ∃ A c, v = .agg #[.slice A nx c, .int .i64 er] ∧ Ext wc w1 ∧ Rs RB w1 (.slice A nx c) xx) rfl rfl (ex_call rfl rfl (map2c (hv.get 2 rfl rfl (hd 2 (by decide))) (hv.get 5 rfl rfl (hd 5 (by decide)))) (enters_of Tryd.func76 (by kernel_rfl) rfl _ _)) ((s5Express_as (Rb.rowsAt (Cd.rowsOf d gs gl) f) b er nx xx (.slice RA N rc) (.slice BA D cb) wc (HO.out.2.1 (hd 2 (by decide)) n8) (Rs.ext RB.ext _ _ _ _ HO.out.1.ext HB.out) HE.out).mono (fun e w' h => by obtain ⟨A, c, rfl, hx, hz⟩ := h; exact ⟨_, rfl, A, c, rfl, hx, hz⟩)) ?_
      rintro v w' ⟨XA2, cX2, rfl, hx, hz⟩
      have h := HO.out.1.next hx
      rw [if_neg (show ¬ (L 8 = true) from by simp [n8])] at h
      have h2 : Owns wr w' [(if upd L 6 7 = true then (if upd L 6 8 = true then ⟨.slice (some ⟨gE, 0, none⟩) 2 2, 117, 1, 2, [.slice XA2 nx cX2, .int .i64 er]⟩ else ⟨.slice (some ⟨gE, 0, none⟩) 2 2, 117, 1, 2, [.slice none 0 0, .int .i64 0]⟩) else no)] := by rw [if_neg (show ¬ (upd L 6 8 = true) from by simp [upd, n8])]; exact h
      exact ⟨RA, rc, XA2, cX2, gE, hv.put rc2_apart 6 rfl (lb rfl) (lb rfl) rfl, Lib.hid (And.intro h2 (And.intro (fun h2 h8 => Rs.ext (Rs.ext RB.ext) _ _ _ _ hx (HO.out.2.1 h2 h8)) fun _ => hz))⟩
    ·
      rintro L a wc ⟨RA, rc, XA, cX, gE, hv, HO⟩ hL hc hd
      have n8 : L 8 = false := Bool.eq_false_iff.2 fun h => Bool.false_ne_true (hL.symm.trans (hc 8 h 7 (by decide)))
      have h := HO.out.1
      rw [if_neg (show ¬ (L 7 = true) from by simp [hL])] at h
      have h2 := h.new 0 #[.slice none 0 0, .int .i64 0] 117 (by simp [maxLen])
      have hA : (Instr.alloc 117 true (.tuple #[])).run Tryd.prog wc = .ok (.pointer (some ⟨wc.heap.size, 0, none⟩)) (wc.alloc (.cells #[.slice none 0 0, .int .i64 0] 117)) := by go_simp
      have h3 : Owns wr (wc.alloc (.cells #[.slice none 0 0, .int .i64 0] 117)) [(if upd L 7 7 = true then (if upd L 7 8 = true then ⟨.slice (some ⟨wc.heap.size, 0, none⟩) 2 2, 117, 1, 2, [.slice XA nx cX, .int .i64 er]⟩ else ⟨.slice (some ⟨wc.heap.size, 0, none⟩) 2 2, 117, 1, 2, [.slice none 0 0, .int .i64 0]⟩) else no)] := by rw [if_pos (show upd L 7 7 = true from by simp [upd]), if_neg (show ¬ (upd L 7 8 = true) from by simp [upd, n8])]; exact h2
      exact wpOp_value rfl rfl (ex_alloc rfl hA) ⟨RA, rc, XA, cX, wc.heap.size, hv.put rc2_apart 7 rfl (lb rfl) (lb rfl) rfl, Lib.hid (And.intro h3 (And.intro (fun h2 h8 => Rs.ext (Rs.ext RB.ext) _ _ _ _ ((Ext.refl wc).alloc _) (HO.out.2.1 h2 h8)) fun h6 => Rs.ext RB.ext _ _ _ _ ((Ext.refl wc).alloc _) (HO.out.2.2 h6)))⟩
    ·
      rintro L a wc ⟨RA, rc, XA, cX, gE, hv, HO⟩ hL hc hd
      have h7 : L 7 = true := hd 7 (by decide)
      have h6 : L 6 = true := hd 6 (by decide)
      have h := HO.out.1
      rw [if_pos h7, if_neg (show ¬ (L 8 = true) from by simp [hL])] at h
      have eA : wc.cell? ⟨gE, 0, none⟩ = some (.slice none 0 0) := h.cell 0 rfl 0 rfl
      have eB : wc.cell? ⟨gE, 1, none⟩ = some (.int .i64 0) := h.cell 0 rfl 1 rfl
      have fA : wc.frozen? ⟨gE, 0, none⟩ = false := h.frozen 0 rfl 0
      have fB : wc.frozen? ⟨gE, 1, none⟩ = false := h.frozen 0 rfl 1
      have hS := (h.store 0 rfl 0 (.slice XA nx cX)).store 0 rfl 1 (.int .i64 er)
      have hV : Rs RB ((wc.setCell ⟨gE, 0, none⟩ (.slice XA nx cX)).setCell ⟨gE, 1, none⟩ (.int .i64 er)) (.slice XA nx cX) xx := Rs.farT (Rs.farT (HO.out.2.2 h6) eA (fun b => by simp [bv])) (by rw [World.cell?_setCell_other _ _ _ _ (by simp)]; exact eB) (fun b => by simp [bv])
      have h3 : Owns wr ((wc.setCell ⟨gE, 0, none⟩ (.slice XA nx cX)).setCell ⟨gE, 1, none⟩ (.int .i64 er)) [(if upd L 8 7 = true then (if upd L 8 8 = true then ⟨.slice (some ⟨gE, 0, none⟩) 2 2, 117, 1, 2, [.slice XA nx cX, .int .i64 er]⟩ else ⟨.slice (some ⟨gE, 0, none⟩) 2 2, 117, 1, 2, [.slice none 0 0, .int .i64 0]⟩) else no)] := by rw [if_pos (show upd L 8 7 = true from by simp [upd, h7]), if_pos (show upd L 8 8 = true from by simp [upd])]; exact hS
      exact wpOp_skip rfl rfl rfl (ex_store (w' := (wc.setCell ⟨gE, 0, none⟩ (.slice XA nx cX)).setCell ⟨gE, 1, none⟩ (.int .i64 er)) rfl (hv.get 7 rfl rfl h7) (hv.get 6 rfl rfl h6) (by go_simp)) ⟨RA, rc, XA, cX, gE, hv.skip 8 rfl, Lib.hid (And.intro h3 (And.intro (fun _ h8 => absurd h8 (by simp [upd])) fun _ => hV))⟩
  · rintro L a wc ⟨RA, rc, XA, cX, gE, hv, HO⟩ hall
    show K a wc
    have ha := act_lit a
    rw [hv.size, hv.defers] at ha
    have hl : ∀ f : Nat → Value, ((List.range (⟨#[c0, c1, .slice FA N cN, .pointer (some ⟨C, 0, none⟩), c4, c5, c6, .slice (some ra) 1 cr, c8, c9, c10, c11, c12, c13, c14, c15, c16, c17, c18, c19, c20, c21, c22, c23, c24, c25, c26, c27, c28, c29, c30, c31, c32, c33, c34, c35, c36, c37, c38, c39, c40, c41, c42, c43, c44, c45, c46, c47, c48, c49, c50, c51, c52, c53, c54, c55, c56, c57, c58, c59, c60], df⟩ : Act).tmps.size).map f).toArray = #[f 0, f 1, f 2, f 3, f 4, f 5, f 6, f 7, f 8, f 9, f 10, f 11, f 12, f 13, f 14, f 15, f 16, f 17, f 18, f 19, f 20, f 21, f 22, f 23, f 24, f 25, f 26, f 27, f 28, f 29, f 30, f 31, f 32, f 33, f 34, f 35, f 36, f 37, f 38, f 39, f 40, f 41, f 42, f 43, f 44, f 45, f 46, f 47, f 48, f 49, f 50, f 51, f 52, f 53, f 54, f 55, f 56, f 57, f 58, f 59, f 60] := fun _ => rfl
    rw [hl] at ha
    simp only [hv.fixed 0 (by decide), hv.fixed 1 (by decide), hv.fixed 2 (by decide), hv.fixed 3 (by decide), hv.fixed 4 (by decide), hv.fixed 5 (by decide), hv.fixed 6 (by decide), hv.fixed 7 (by decide), hv.fixed 9 (by decide), hv.fixed 10 (by decide), hv.fixed 11 (by decide), hv.fixed 12 (by decide), hv.fixed 13 (by decide), hv.fixed 14 (by decide), hv.fixed 22 (by decide), hv.fixed 23 (by decide), hv.fixed 24 (by decide), hv.fixed 25 (by decide), hv.fixed 26 (by decide), hv.fixed 27 (by decide), hv.fixed 28 (by decide), hv.fixed 29 (by decide), hv.fixed 30 (by decide), hv.fixed 31 (by decide), hv.fixed 32 (by decide), hv.fixed 33 (by decide), hv.fixed 34 (by decide), hv.fixed 35 (by decide), hv.fixed 36 (by decide), hv.fixed 37 (by decide), hv.fixed 38 (by decide), hv.fixed 39 (by decide), hv.fixed 40 (by decide), hv.fixed 41 (by decide), hv.fixed 42 (by decide), hv.fixed 43 (by decide), hv.fixed 44 (by decide), hv.fixed 45 (by decide), hv.fixed 46 (by decide), hv.fixed 47 (by decide), hv.fixed 48 (by decide), hv.fixed 49 (by decide), hv.fixed 50 (by decide), hv.fixed 51 (by decide), hv.fixed 52 (by decide), hv.fixed 53 (by decide), hv.fixed 54 (by decide), hv.fixed 55 (by decide), hv.fixed 56 (by decide), hv.fixed 57 (by decide), hv.fixed 58 (by decide), hv.fixed 59 (by decide), hv.fixed 60 (by decide), hv.get 7 (d := 8) rfl rfl (hall 7 (by decide))] at ha
    rw [ha]
    have hO := HO.out
    rw [if_pos (hall 7 (by decide)), if_pos (hall 8 (by decide))] at hO
    exact hK XA cX gE _ _ _ _ _ _ _ wc ⟨hO.1, hO.2.2 (hall 6 (by decide))⟩
end Go.Proofs.YtdmljilcbndmfaaDoor

/- THE WALK over Recipe of the specification of rebuilds. -/
namespace Rb
/-- The recipe that the specification returns, and its error. -/
def recD (m : Mx.Mat) (p : Nat) (f : List Int) : Rec := (recipe m p f).getD ⟨0, [], []⟩
def recF (m : Mx.Mat) (p : Nat) (f : List Int) : Int := if (recipe m p f).isSome then 0 else 17
theorem recD_none {m : Mx.Mat} {p : Nat} {f : List Int} (h : (Mx.expr (rowsAt m f) (m.getD p [])).isSome = false) : recD m p f = ⟨0, [], []⟩ ∧ recF m p f = 17 := by
  have h2 := recipe_some m p f
  rw [h] at h2
  unfold recD recF
  cases hr : recipe m p f with
  | none => exact ⟨rfl, rfl⟩
  | some r => rw [hr] at h2; cases h2
theorem recD_some {m : Mx.Mat} {p : Nat} {f : List Int} (h : (Mx.expr (rowsAt m f) (m.getD p [])).isSome = true) : recD m p f = made p f ((Mx.expr (rowsAt m f) (m.getD p [])).getD []) ∧ recF m p f = 0 := by
  have h2 := recipe_some m p f
  have h3 := recipe_made m p f
  rw [h] at h2
  unfold recD recF
  cases hr : recipe m p f with
  | none => rw [hr] at h2; cases h2
  | some r => rw [hr] at h3; exact ⟨h3, rfl⟩
end Rb
namespace Go.Proofs.YtdmljilcbndmfaaDoor
open Go.RowKit
/-- A recipe of the specification, or an error. -/
def MadeOut (w w' : World) (r : Rb.Rec) (E : Int) (e : Ending) : Prop := ∃ F C, e = .returned (.agg #[.int .i64 r.piece, F, C, .int .i64 E]) ∧ Rs RI w' F r.src ∧ Rs RB w' C r.coef ∧ Fresh w w' F ∧ Fresh w w' C ∧ Ext w w'
theorem rs_set1 {α : Type} {R : World → Value → α → Prop} (hR : ∀ W W' v x, R W v x → R W' v x) {w : World} {Q k : Nat} {u v : Value} {xs : List α} (h : Rs R w v xs) (hf : ∀ b, v.ownBlock = some b → b ≠ Q) : Rs R (w.setCell ⟨Q, k, none⟩ u) v xs := by
  obtain ⟨A, c, rfl, hl, h⟩ := h
  refine ⟨A, c, rfl, hl, fun i x hi => ?_⟩
  obtain ⟨ad, u, h1, h2, h3⟩ := h i x hi
  have hne : (ad.add i).block ≠ Q := by rw [block_add]; exact hf ad.block (by rw [h1]; rfl)
  exact ⟨ad, u, h1, by rw [cell_far _ hne]; exact h2, hR _ _ _ _ h3⟩
set_option maxHeartbeats 16000000 in
set_option maxRecDepth 100000 in
theorem sRecipe_any (d gl : Int) (gs : List (List Int)) (p D : Nat) (f : List Int) (G vf : Value) (w : World) (hG : Rs (Rs RI) w G gs) (hgn : gs.length ≤ 4611686018427387904) (hF : Rs RI w vf f) (hw : ∀ r ∈ Cd.rowsOf d gs gl, r.length = D) (h0 : 0 < D) (hD : D ≤ 48) (hf : f.length ≤ 48) (hp : p < (Cd.rowsOf d gs gl).length) (hm : (Cd.rowsOf d gs gl).length ≤ 48) (hfm : ∀ i ∈ f, 0 ≤ i ∧ i < ((Cd.rowsOf d gs gl).length : Int)) :
    Calls Tryd.prog 47 #[.agg #[.int .i64 d, G, .int .i64 gl], .int .i64 (p : Nat), vf] w fun e w' => MadeOut w w' (Rb.recD (Cd.rowsOf d gs gl) p f) (Rb.recF (Cd.rowsOf d gs gl) p f) e := by
  obtain ⟨GA, Gc, rfl, _⟩ := hG.form
  obtain ⟨FA0, cN, rfl, _⟩ := hF.form
  obtain ⟨N, hN⟩ : ∃ N, f.length = N := ⟨_, rfl⟩
  obtain ⟨ng, hng⟩ : ∃ ng, gs.length = ng := ⟨_, rfl⟩
  rw [hN] at hF ⊢
  rw [hng] at hG ⊢
  have hB : Owns w ((w.alloc (.cells #[.int .i64 d, .slice GA ng Gc, .int .i64 gl] 24)).alloc (.cells #[.int .i64 0, .slice none 0 0, .slice none 0 0, .int .i64 0] 39)) [⟨.slice (some ⟨w.heap.size, 0, none⟩) 3 3, 24, 1, 3, [.int .i64 d, .slice GA ng Gc, .int .i64 gl]⟩, ⟨.slice (some ⟨(w.alloc (.cells #[.int .i64 d, .slice GA ng Gc, .int .i64 gl] 24)).heap.size, 0, none⟩) 4 4, 39, 1, 4, [.int .i64 0, .slice none 0 0, .slice none 0 0, .int .i64 0]⟩] :=
    ((Owns.start w (L := [no, no]) (by intro r hr; simp at hr; subst hr; exact ⟨rfl, rfl, rfl⟩)).new 0 #[.int .i64 d, .slice GA ng Gc, .int .i64 gl] 24 (by simp [maxLen])).new 1 #[.int .i64 0, .slice none 0 0, .slice none 0 0, .int .i64 0] 39 (by simp [maxLen])
  have hsz : (w.alloc (.cells #[.int .i64 d, .slice GA ng Gc, .int .i64 gl] 24)).heap.size = w.heap.size + 1 := by simp
  rw [hsz] at hB
  clear hsz
  have hrl : ∀ i : Nat, i < (Cd.rowsOf d gs gl).length → ((Cd.rowsOf d gs gl).getD i []).length = D := fun i hi => hw _ (by rw [List.getD_eq_getElem?_getD, List.getElem?_eq_getElem hi]; exact List.getElem_mem _)
  have HG := Lib.hid (And.intro hG hgn)
  have HF := Lib.hid (And.intro hF (And.intro hN (And.intro hf hfm)))
  have HB := Lib.hid hB
  have HP := Lib.hid (And.intro hrl (And.intro h0 (And.intro hD (And.intro hp hm))))
  have hN48 : N ≤ 48 := by omega
  clear hG hF hw h0 hD hf hp hm hfm hB hrl hgn hN hng
  go_enter Tryd.func47, Tryd.ntmps47
  go_upto_region 1 with fail
  obtain ⟨C, hC⟩ : ∃ C, w.heap.size = C := ⟨_, rfl⟩
  obtain ⟨Q, hQ⟩ : ∃ Q, C + 1 = Q := ⟨_, rfl⟩
  rw [hC, hQ] at HB
  rw [hC]
  try rw [hQ]
  obtain ⟨w1, hw1⟩ : ∃ x, (w.alloc (.cells #[.int .i64 d, .slice GA ng Gc, .int .i64 gl] 24)).alloc (.cells #[.int .i64 0, .slice none 0 0, .slice none 0 0, .int .i64 0] 39) = x := ⟨_, rfl⟩
  rw [hw1] at HB ⊢
  clear hw1 hQ hC
  have b0 : w1.cell? ⟨C, 0, none⟩ = some (.int .i64 d) := HB.out.cell 0 rfl 0 rfl
  have b1 : w1.cell? ⟨C, 1, none⟩ = some (.slice GA ng Gc) := HB.out.cell 0 rfl 1 rfl
  have b2 : w1.cell? ⟨C, 2, none⟩ = some (.int .i64 gl) := HB.out.cell 0 rfl 2 rfl
  have hxa : Ext w1 (w1.alloc (.cells #[.int .i64 (p : Nat)] 3)) := (Ext.refl w1).alloc _
  have hlp : Rs RI (w1.alloc (.cells #[.int .i64 (p : Nat)] 3)) (.slice (some ⟨w1.heap.size, 0, none⟩) 1 1) [(p : Int)] := by
    refine ⟨_, _, rfl, by simp, fun i x hi => ?_⟩
    match i, hi with
    | 0, hi =>
      simp at hi
      subst hi
      refine ⟨_, _, rfl, cell_of_row _ _ 0 _ _ (0, 0) (heap_new _ _), rfl, ?_⟩
      have := HP.out.2.2.2
      omega
  have hrp := sRows_as d gl gs [(p : Int)] 1 (.slice GA ng Gc) _ _ (Rs.ext (Rs.ext RI.ext) _ _ _ _ (HB.out.ext.trans hxa) HG.out.1) HG.out.2 hlp rfl (by simp) (fun i hi => by rw [List.mem_singleton.1 hi]; have := HP.out.2.2.2.1; omega)
  have HRP := Lib.hid hrp
  clear hxa hlp hrp
  go_wp2_with fail
  refine HRP.out.mono ?_
  clear HRP
  rintro e w2 ⟨RA1, rc1, rfl, hx2, hz2⟩
  have HO2 := Lib.hid ((HB.out.alloc (.cells #[.int .i64 (p : Nat)] 3)).next hx2)
  obtain ⟨ra, u, hra, hcr, hur⟩ := hz2.at (i := 0) (by simp [Rb.rowsAt])
  subst hra
  rw [addr_zero] at hcr
  have hrow : (Rb.rowsAt (Cd.rowsOf d gs gl) [(p : Int)])[0]'(by simp [Rb.rowsAt]) = (Cd.rowsOf d gs gl).getD p [] := by simp [Rb.rowsAt]
  rw [hrow] at hur
  obtain ⟨BA, cb, rfl, _⟩ := hur.form
  obtain ⟨DD, hDD⟩ : ∃ DD, ((Cd.rowsOf d gs gl).getD p []).length = DD := ⟨_, rfl⟩
  rw [hDD] at hcr hur
  have HUR := Lib.hid hur
  obtain ⟨xx, hxx⟩ : ∃ xx, (Mx.expr (Rb.rowsAt (Cd.rowsOf d gs gl) f) ((Cd.rowsOf d gs gl).getD p [])).getD [] = xx := ⟨_, rfl⟩
  obtain ⟨er, her⟩ : ∃ er, (if (Mx.expr (Rb.rowsAt (Cd.rowsOf d gs gl) f) ((Cd.rowsOf d gs gl).getD p [])).isSome then (0 : Int) else 8) = er := ⟨_, rfl⟩
  obtain ⟨nx, hnx⟩ : ∃ nx, xx.length = nx := ⟨_, rfl⟩
  have hat : ExpAt (Rb.rowsAt (Cd.rowsOf d gs gl) f) ((Cd.rowsOf d gs gl).getD p []) er nx xx := by
    have hpl := HP.out.1 p HP.out.2.2.2.1
    refine ⟨her, hxx, hnx, fun r hr => ?_, by rw [hpl]; exact HP.out.2.1, by rw [hpl]; exact HP.out.2.2.1, by rw [Rb.rowsAt, List.length_map]; exact HF.out.2.2.1⟩
    obtain ⟨i, hi, rfl⟩ := List.mem_map.1 hr
    rw [hpl]
    have := HF.out.2.2.2 i hi
    exact HP.out.1 i.toNat (by omega)
  have HAT := Lib.hid hat
  have HEE := Lib.hid (And.intro her (And.intro hxx hnx))
  have k0 : w2.cell? ⟨C, 0, none⟩ = some (.int .i64 d) := HO2.out.cell 0 rfl 0 rfl
  have k1 : w2.cell? ⟨C, 1, none⟩ = some (.slice GA ng Gc) := HO2.out.cell 0 rfl 1 rfl
  have k2 : w2.cell? ⟨C, 2, none⟩ = some (.int .i64 gl) := HO2.out.cell 0 rfl 2 rfl
  have HGF := Lib.hid (And.intro (Lib.hid (And.intro (Rs.ext (Rs.ext RI.ext) _ _ _ _ HO2.out.ext HG.out.1) HG.out.2)) (Lib.hid (And.intro (Rs.ext RI.ext _ _ _ _ HO2.out.ext HF.out.1) HF.out.2)))
  clear hx2 hz2 hrow hur hDD hat her hxx hnx b0 b1 b2 HB
  go_upto_region 2 with fail
  refine wp_atEnd' (rc2 w2 C GA FA0 BA ra ng Gc N cN rc1 DD cb nx d gl er gs f ((Cd.rowsOf d gs gl).getD p []) xx k0 k1 k2 hcr HGF.out.1 HGF.out.2 HUR HAT _ _ _ _ _ _ _ _ _ _ _ _ _ _ _ _ _ _ _ _ _ _ _ _ _ _ _ _ _ _ _ _ _ _ _ _ _ _ _ _ _ _ _ _ _ _ _ _ _ _ _ _ _ _ _ _ _ _ _ _ ?_)
  rintro XA cX E u15 u16 u17 u18 u19 u20 u21 w3 ⟨hE3, hX3⟩
  have HO3 := Lib.hid (HO2.out.next hE3.ext)
  have HE3 := Lib.hid hE3
  have HX3 := Lib.hid hX3
  have HF3 := Lib.hid (And.intro (Rs.ext RI.ext _ _ _ _ hE3.ext HGF.out.2.out.1) HF.out.2)
  clear hE3 hX3 k0 k1 k2 hcr HUR HGF HO2 HAT
  have e1 : w3.cell? ⟨E, 1, none⟩ = some (.int .i64 er) := HE3.out.cell 0 rfl 1 rfl
  obtain ⟨her, hxx, hnx⟩ := HEE.out
  clear HEE
  obtain ⟨bs, hs⟩ : ∃ bs, (Mx.expr (Rb.rowsAt (Cd.rowsOf d gs gl) f) ((Cd.rowsOf d gs gl).getD p [])).isSome = bs := ⟨_, rfl⟩
  rw [hs] at her
  cases bs with
  | false =>
    have hrd := Rb.recD_none hs
    obtain rfl : (8 : Int) = er := her
    have HRD := Lib.hid hrd
    clear hrd hs hxx
    have q0 := HO3.out.cell 1 rfl 0 rfl
    have q1 := HO3.out.cell 1 rfl 1 rfl
    have q2 := HO3.out.cell 1 rfl 2 rfl
    have q3 := HO3.out.cell 1 rfl 3 rfl
    have f0 := HO3.out.frozen 1 rfl 0
    have f1 := HO3.out.frozen 1 rfl 1
    have f2 := HO3.out.frozen 1 rfl 2
    have f3 := HO3.out.frozen 1 rfl 3
    have HS1 := Lib.hid ((((HO3.out.store 1 rfl 0 (.int .i64 0)).store 1 rfl 1 (.slice none 0 0)).store 1 rfl 2 (.slice none 0 0)).store 1 rfl 3 (.int .i64 17))
    go_wp2_with fail
    refine bodyPost_ret (results_cell1 (v := .agg #[.int .i64 0, .slice none 0 0, .slice none 0 0, .int .i64 17]) rfl rfl ?_) rfl ?_
    · go_simp
    rw [HRD.out.1, HRD.out.2]
    exact ⟨_, _, rfl, Rs.nil _, Rs.nil _, (fun b h => by cases h), (fun b h => by cases h), HS1.out.ext⟩
  | true =>
    have hrd := Rb.recD_some hs
    obtain rfl : (0 : Int) = er := her
    have hxl : nx = N := by
      cases hE : Mx.expr (Rb.rowsAt (Cd.rowsOf d gs gl) f) ((Cd.rowsOf d gs gl).getD p []) with
      | none => rw [hE] at hs; cases hs
      | some y =>
        have h1 := (Mx.expr_some hE).1
        rw [hE] at hxx
        have h2 : y = xx := hxx
        rw [← hnx, ← h2, h1, Rb.rowsAt, List.length_map, HF.out.2.1]
    subst hxl
    rw [hxx] at hrd
    have HRD := Lib.hid hrd
    have HNX := Lib.hid hnx
    clear hrd hs hxx hnx
    have hO5 := (Owns.start w3 (L := [nilRow 3, nilRow 5, no]) (by intro r hr; simp only [List.mem_cons, List.not_mem_nil, or_false] at hr; rcases hr with rfl | rfl | rfl <;> exact ⟨rfl, rfl, rfl⟩)).new 2 #[.int .i64 (p : Nat), .slice none 0 0, .slice none 0 0] 30 (by simp [maxLen])
    have HO5 := Lib.hid (hO5.sublist (L' := [nilRow 3, nilRow 5, ⟨.slice (some ⟨w3.heap.size, 0, none⟩) 3 3, 30, 1, 3, [.int .i64 (p : Nat), .slice none 0 0, .slice none 0 0]⟩]) (List.Sublist.refl _))
    clear hO5
    go_upto_region 6 with fail
    obtain ⟨w5, hw5⟩ : ∃ w5, w3.alloc (.cells #[.int .i64 (p : Nat), .slice none 0 0, .slice none 0 0] 30) = w5 := ⟨_, rfl⟩
    obtain ⟨B, hB⟩ : ∃ B, w3.heap.size = B := ⟨_, rfl⟩
    rw [hw5, hB] at HO5
    rw [hw5, hB]
    clear hw5 hB
    go_wp2_with fail
    go_loopw [10] (fun vi wr => ∃ (k na cF cC : Nat) (FA CA : Option Addr), k ≤ nx ∧ vi = .int .i64 (k : Nat) ∧ na ≤ k ∧ Hid (na = (Rb.keep (f.take k) (xx.take k)).length ∧ Owns w3 wr [⟨.slice (some ⟨B, 0, none⟩) 3 3, 30, 1, 3, [.int .i64 (p : Nat), .slice FA na cF, .slice CA na cC]⟩, ⟨.slice FA na cF, 3, 1, na, ((Rb.keep (f.take k) (xx.take k)).map Prod.fst).map (.int .i64)⟩, ⟨.slice CA na cC, 5, 1, na, ((Rb.keep (f.take k) (xx.take k)).map Prod.snd).map bv⟩])) (fun vi _ => nx - (intOf vi).toNat)
    case atStart => exact ⟨0, 0, 0, 0, none, none, Nat.zero_le _, rfl, Nat.le_refl _, Lib.hid ⟨rfl, HO5.out.perm (List.perm_append_comm (l₁ := [nilRow 3, nilRow 5]) (l₂ := [_]))⟩⟩
    case round =>
      obtain ⟨k, na, cF, cC, FA, CA, hk, rfl, hna, HI⟩ := hrel
      by_cases hlt : k < nx
      · have hkf : k < f.length := by rw [HF.out.2.1]; exact hlt
        have hkx : k < xx.length := by rw [HNX.out]; exact hlt
        obtain ⟨xa, u1, hxa, hc1, hu1⟩ := (HX3.out).at hkx
        subst hxa
        obtain rfl := hu1
        obtain ⟨fd, u2, hfd, hc2, hu2⟩ := (HF3.out.1).at hkf
        subst hfd
        have hue := hu2.1
        subst hue
        have hs := Rb.keep_succ hkf hkx
        obtain ⟨y, hy⟩ : ∃ y, xx[k] = y := ⟨_, rfl⟩
        obtain ⟨fk, hfk⟩ : ∃ fk, f[k] = fk := ⟨_, rfl⟩
        rw [hy] at hc1 hs
        rw [hfk] at hc2 hs
        have HS := Lib.hid hs
        have hcy : wr.cell? (xa.add k) = some (bv y) := HI.out.2.ext.cell hc1
        have g0 : wr.cell? ⟨E, 0, none⟩ = some (.slice (some xa) nx cX) := HI.out.2.ext.cell (HE3.out.cell 0 rfl 0 rfl)
        clear hs hy hfk hu2 hkf hkx
        by_cases hy0 : y = 0
        · subst hy0
          have HS2 := Lib.hid (HS.out.trans (by rw [if_pos rfl, List.append_nil]))
          clear HS
          go_wp2_with fail
          go_roundw
          case rel => exact ⟨k + 1, na, cF, cC, FA, CA, by omega, by go_num, by omega, Lib.hid (by rw [HS2.out]; exact HI.out)⟩
          case measure => simp [intOf]; omega
        · have HS2 := Lib.hid (HS.out.trans (by rw [if_neg hy0]))
          have hb0 : (((y.toNat : Nat) : Int) != 0) = true := by
            rw [bne_iff_ne]
            intro h
            exact hy0 (UInt8.toNat_inj.1 (by have : y.toNat = 0 := by omega
                                             exact this))
          have hb1 : (((y.toNat : Nat) : Int) == 0) = false := by
            rw [beq_eq_false_iff_ne]
            intro h
            exact hy0 (UInt8.toNat_inj.1 (by have : y.toNat = 0 := by omega
                                             exact this))
          clear hy0 HS
          have HOA := Lib.hid HI.out.2
          have HNA := Lib.hid HI.out.1
          clear HI
          go_upto_region 10 with fail
          refine wp_atEnd' (rc10 w3 wr B k nx na cN cF FA fd _ _ _ _ fk hc2 hlt (by omega) HOA _ _ _ _ _ _ _ _ _ _ _ _ _ _ _ _ _ _ _ _ _ _ _ _ _ _ _ _ _ _ _ _ _ _ _ _ _ _ _ _ _ _ _ _ _ _ _ _ _ _ _ _ _ _ _ _ _ _ _ _ ?_)
          rintro g7 k7 u40 u41 u42 u43 u44 u45 u46 u47 u48 wy hOy
          have HE4 : Hid (∀ (W : World) (R0 R1 R2 : LRow), Owns w3 W (R0 :: R1 :: R2 :: [⟨.slice (some ⟨g7, 0, none⟩) (na + 1) k7, 3, 1, na + 1, ((Rb.keep (f.take k) (xx.take k)).map Prod.fst).map (.int .i64) ++ [.int .i64 fk]⟩]) → W.cell? ⟨E, 0, none⟩ = some (.slice (some xa) nx cX) ∧ W.cell? (xa.add k) = some (bv y)) := Lib.hid fun W R0 R1 R2 h => ⟨h.ext.cell (HE3.out.cell 0 rfl 0 rfl), h.ext.cell hc1⟩
          have HOY := Lib.hid (hOy.perm (List.Perm.cons _ (List.Perm.swap _ _ _)))
          clear hOy hcy g0 HOA hb0 hb1
          go_upto_region 11 with fail
          refine wp_atEnd' (rc11 w3 wy B k nx na cX cC CA xa _ _ _ _ E y HE4 hlt (by omega) HOY _ _ _ _ _ _ _ _ _ _ _ _ _ _ _ _ _ _ _ _ _ _ _ _ _ _ _ _ _ _ _ _ _ _ _ _ _ _ _ _ _ _ _ _ _ _ _ _ _ _ _ _ _ _ _ _ _ _ _ _ ?_)
          rintro g8 k8 u49 u50 u51 u52 u53 u54 u55 u56 u57 u58 wx hOx
          have HOX := Lib.hid (hOx.perm (List.Perm.cons _ (List.Perm.swap _ _ _)))
          clear hOx HOY HE4 hc1 hc2
          go_wp2_with fail
          go_roundw
          case rel => exact ⟨k + 1, na + 1, k7, k8, some ⟨g7, 0, none⟩, some ⟨g8, 0, none⟩, by omega, by go_num, by omega, Lib.hid ⟨by rw [HS2.out, List.length_append, ← HNA.out]; rfl, by rw [HS2.out, List.map_append, List.map_append, List.map_append, List.map_append]; exact HOX.out⟩⟩
          case measure => simp [intOf]; omega
      · obtain rfl : k = nx := by omega
        have hk2 : Rb.keep (f.take k) (xx.take k) = Rb.keep f xx := by
          have h := Rb.keep_all f xx
          rw [HNX.out] at h
          exact h
        have hnl := HI.out.1
        have hO6 := HI.out.2
        rw [hk2] at hnl hO6
        have hO7 := HO3.out.next hO6.ext
        have b0 : wr.cell? ⟨B, 0, none⟩ = some (.int .i64 (p : Nat)) := hO6.cell 0 rfl 0 rfl
        have b1 : wr.cell? ⟨B, 1, none⟩ = some (.slice FA na cF) := hO6.cell 0 rfl 1 rfl
        have b2 : wr.cell? ⟨B, 2, none⟩ = some (.slice CA na cC) := hO6.cell 0 rfl 2 rfl
        have q0 : wr.cell? ⟨Q, 0, none⟩ = some (.int .i64 0) := hO7.cell 1 rfl 0 rfl
        have q1 : wr.cell? ⟨Q, 1, none⟩ = some (.slice none 0 0) := hO7.cell 1 rfl 1 rfl
        have q2 : wr.cell? ⟨Q, 2, none⟩ = some (.slice none 0 0) := hO7.cell 1 rfl 2 rfl
        have q3 : wr.cell? ⟨Q, 3, none⟩ = some (.int .i64 0) := hO7.cell 1 rfl 3 rfl
        have f0 : wr.frozen? ⟨Q, 0, none⟩ = false := hO7.frozen 1 rfl 0
        have f1 : wr.frozen? ⟨Q, 1, none⟩ = false := hO7.frozen 1 rfl 1
        have f2 : wr.frozen? ⟨Q, 2, none⟩ = false := hO7.frozen 1 rfl 2
        have f3 : wr.frozen? ⟨Q, 3, none⟩ = false := hO7.frozen 1 rfl 3
        have hO8 := (((hO7.store 1 rfl 0 (.int .i64 (p : Nat))).store 1 rfl 1 (.slice FA na cF)).store 1 rfl 2 (.slice CA na cC)).store 1 rfl 3 (.int .i64 0)
        have hQ3 : Q < w3.heap.size := ((HO3.out.row 1 rfl).lt Q rfl).2
        have hfa : ∀ b, (Value.slice FA na cF).ownBlock = some b → b ≠ Q := fun b e => by
          have := (hO6.row 1 rfl).lt b e
          omega
        have hca : ∀ b, (Value.slice CA na cC).ownBlock = some b → b ≠ Q := fun b e => by
          have := (hO6.row 2 rfl).lt b e
          omega
        have hle := Rb.keep_few f xx
        have hsrc : Rs RI wr (.slice FA na cF) (Rb.made p f xx).src := by
          refine Rs.of_ints (hO6.rd 1 rfl) (by simp [Rb.made, hnl]) (by simp [Rb.made]; have := HF.out.2.1; omega) (fun z hz => ?_)
          obtain ⟨q, hq, rfl⟩ := List.mem_map.1 hz
          have h1 := (List.mem_filter.1 hq).1
          have h2 := HF.out.2.2.2 q.1 (List.of_mem_zip (a := q.1) (b := q.2) h1).1
          have := HP.out.2.2.2.2
          omega
        have hcoef : Rs RB wr (.slice CA na cC) (Rb.made p f xx).coef := by
          have h1 := Rs.of_rd (c := cC) (hO6.rd 2 rfl) (by simp; have := HF.out.2.1; omega)
          rw [List.length_map, ← hnl] at h1
          exact h1
        have hsrc2 := rs_set1 (Q := Q) (k := 3) (u := .int .i64 0) (fun _ _ _ _ h => h) (rs_set1 (Q := Q) (k := 2) (u := .slice CA na cC) (fun _ _ _ _ h => h) (rs_set1 (Q := Q) (k := 1) (u := .slice FA na cF) (fun _ _ _ _ h => h) (rs_set1 (Q := Q) (k := 0) (u := .int .i64 (p : Nat)) (fun _ _ _ _ h => h) hsrc hfa) hfa) hfa) hfa
        have hcoef2 := rs_set1 (Q := Q) (k := 3) (u := .int .i64 0) (fun _ _ _ _ h => h) (rs_set1 (Q := Q) (k := 2) (u := .slice CA na cC) (fun _ _ _ _ h => h) (rs_set1 (Q := Q) (k := 1) (u := .slice FA na cF) (fun _ _ _ _ h => h) (rs_set1 (Q := Q) (k := 0) (u := .int .i64 (p : Nat)) (fun _ _ _ _ h => h) hcoef hca) hca) hca) hca
        have hfrF : Fresh w ((((wr.setCell ⟨Q, 0, none⟩ (.int .i64 (p : Nat))).setCell ⟨Q, 1, none⟩ (.slice FA na cF)).setCell ⟨Q, 2, none⟩ (.slice CA na cC)).setCell ⟨Q, 3, none⟩ (.int .i64 0)) (.slice FA na cF) := fun b hb => by
          have := (hO6.row 1 rfl).lt b hb
          have h4 := HO3.out.ext.size
          refine ⟨by omega, by simpa using this.2⟩
        have hfrC : Fresh w ((((wr.setCell ⟨Q, 0, none⟩ (.int .i64 (p : Nat))).setCell ⟨Q, 1, none⟩ (.slice FA na cF)).setCell ⟨Q, 2, none⟩ (.slice CA na cC)).setCell ⟨Q, 3, none⟩ (.int .i64 0)) (.slice CA na cC) := fun b hb => by
          have := (hO6.row 2 rfl).lt b hb
          have h4 := HO3.out.ext.size
          refine ⟨by omega, by simpa using this.2⟩
        have HRES := Lib.hid (And.intro hsrc2 (And.intro hcoef2 (And.intro hfrF (And.intro hfrC hO8.ext))))
        clear hk2 hnl hO6 hO7 hO8 hQ3 hfa hca hle hsrc hcoef hsrc2 hcoef2 hfrF hfrC HI e1
        go_wp2_with fail
        refine bodyPost_ret (results_cell1 (v := .agg #[.int .i64 (p : Nat), .slice FA na cF, .slice CA na cC, .int .i64 0]) rfl rfl ?_) rfl ?_
        · go_simp
        rw [HRD.out.1, HRD.out.2]
        exact ⟨_, _, rfl, HRES.out.1, HRES.out.2.1, HRES.out.2.2.1, HRES.out.2.2.2.1, HRES.out.2.2.2.2⟩
end Go.Proofs.YtdmljilcbndmfaaDoor

/- WHAT All OF THE SPECIFICATION of rebuilds wants: its drawn region 13; lists of recipes in a variable; the sets that Choices returns. -/
namespace Go.Proofs.YtdmljilcbndmfaaDoor
open Go.RowKit
/-- A recipe whose slices were made since w0. -/
structure RecAt (w0 w : World) (r : Rb.Rec) (F C : Value) : Prop where
  f : Rs RI w F r.src
  c : Rs RB w C r.coef
  nf : Fresh w0 w F
  nc : Fresh w0 w C
theorem RecAt.new {w0 w : World} {r : Rb.Rec} {F C : Value} (h : RecAt w0 w r F C) (b : Nat) (hb : F.ownBlock = some b ∨ C.ownBlock = some b) : w0.heap.size ≤ b := by
  rcases hb with hb | hb
  · exact (h.nf b hb).1
  · exact (h.nc b hb).1
theorem RecAt.old {w0 w : World} {r : Rb.Rec} {F C : Value} (h : RecAt w0 w r F C) (b : Nat) (hb : F.ownBlock = some b ∨ C.ownBlock = some b) : b < w.heap.size := by
  rcases hb with hb | hb
  · exact (h.nf b hb).2
  · exact (h.nc b hb).2
theorem RecAt.next {w0 w w' : World} {r : Rb.Rec} {F C : Value} (h : RecAt w0 w r F C) (hx : Ext w w') : RecAt w0 w' r F C :=
  ⟨Rs.ext RI.ext _ _ _ _ hx h.f, Rs.ext RB.ext _ _ _ _ hx h.c, fun b hb => ⟨(h.nf b hb).1, Nat.lt_of_lt_of_le (h.nf b hb).2 hx.size⟩, fun b hb => ⟨(h.nc b hb).1, Nat.lt_of_lt_of_le (h.nc b hb).2 hx.size⟩⟩
theorem RecAt.low {w0 w1 w : World} {r : Rb.Rec} {F C : Value} (h : RecAt w1 w r F C) (hl : w0.heap.size ≤ w1.heap.size) : RecAt w0 w r F C :=
  ⟨h.f, h.c, fun b hb => ⟨Nat.le_trans hl (h.nf b hb).1, (h.nf b hb).2⟩, fun b hb => ⟨Nat.le_trans hl (h.nc b hb).1, (h.nc b hb).2⟩⟩
theorem ChO.rs {w0 W : World} {q oc : Nat} {oA : Option Addr} {LL : List LRow} {ys : List (List Int)} (h : ChO w0 W q oc oA LL ys) (hq : q ≤ 1000000000) (hb : ∀ f ∈ ys, f.length ≤ 1000 ∧ ∀ x ∈ f, 0 ≤ x ∧ x < 1000) : Rs (Rs RI) W (.slice oA q oc) ys := by
  obtain ⟨vs, hO, hvl, hyl, hin⟩ := h
  refine ⟨oA, oc, by rw [hyl], by omega, fun i y hi => ?_⟩
  have hiq := (List.getElem?_eq_some_iff.1 hi).1
  rw [hyl] at hiq
  have hy : ys.getD i [] = y := by rw [List.getD_eq_getElem?_getD, hi]; rfl
  obtain ⟨g, c, m, hm, hv, hmem⟩ := hin i hiq
  obtain ⟨ad, hA, _, hc⟩ := hO.rd 0 rfl i _ hv
  refine ⟨ad, _, hA, hc, ?_⟩
  obtain ⟨j, hj⟩ := List.getElem?_of_mem (List.mem_cons_of_mem _ hmem)
  have hrd := hO.rd j hj
  rw [hy] at hrd hm
  have hbb := hb y (List.mem_of_getElem? hi)
  exact Rs.of_ints hrd hm (by have := hbb.1; omega) fun x hx => by have := hbb.2 x hx; omega
set_option maxRecDepth 100000 in
/-- 'l = append(l, r)' the variable no box. -/
theorem wpl_append_tmp {w0 w : World} {A : Option Addr} {c : Nat} {x : List RV} {y : RV} {ops : Array Oper} {rest : List Oper} {o : Oper} {a : Act} {Q : Exit → Act → World → Prop} (hgd : o.guard = none) (s z : Operand)
    (ho : o.op = .call { callee := .builtin .append, args := #[s, z], argTypes := #[34, 34] })
    (h : TAt w0 w A c x) (hs : a.eval s = .slice A x.length c) {g0 : Nat} (hx : a.eval z = .slice (some ⟨g0, 0, none⟩) 1 1) (h0 : w.cell? ⟨g0, 0, none⟩ = some (.int .i64 y.1.piece)) (h1 : w.cell? ⟨g0, 1, none⟩ = some y.2.1) (h2 : w.cell? ⟨g0, 2, none⟩ = some y.2.2)
    (hf : Rs RI w y.2.1 y.1.src) (hc : Rs RB w y.2.2 y.1.coef) (hfar : ∀ b, y.2.1.ownBlock = some b ∨ y.2.2.ownBlock = some b → b < w.heap.size ∧ (Value.slice A x.length c).ownBlock ≠ some b) (hnew : ∀ b, y.2.1.ownBlock = some b ∨ y.2.2.ownBlock = some b → w0.heap.size ≤ b) (hm : x.length < 1000000)
    (hK : ∀ g cap w', Hid (TAt w0 w' (some ⟨g, 0, none⟩) cap (x ++ [y])) → wpList Tryd.prog ops Q rest (a.put o.dst (.slice (some ⟨g, 0, none⟩) (x.length + 1) cap)) w') :
    wpList Tryd.prog ops Q (o :: rest) a w := by
  refine wpList_plain hgd fun K hK' => ?_
  obtain ⟨FA, fc, hFv, _⟩ := hf.form
  obtain ⟨CA, cc, hCv, _⟩ := hc.form
  have hnews : ∀ j u, [Value.int .i64 y.1.piece, y.2.1, y.2.2][j]? = some u → w.cell? ((⟨g0, 0, none⟩ : Addr).add j) = some u := fun j u hj => by
    match j, hj with
    | 0, hj => simp at hj; subst hj; exact h0
    | 1, hj => simp at hj; subst hj; exact h1
    | 2, hj => simp at hj; subst hj; exact h2
  have hone : ∀ u ∈ [Value.int .i64 y.1.piece, y.2.1, y.2.2], u.oneCell' = true := fun u hu => by
    simp at hu
    rcases hu with rfl | rfl | rfl
    · rfl
    · rw [hFv]; rfl
    · rw [hCv]; rfl
  obtain ⟨i, hi0, hiz, hi1, hi2⟩ := info_parts info_rec
  have hown := h.owns.row 0 rfl
  obtain ⟨g, cap, w', hr, r1, r2, r3, r4⟩ := run_append_lies (P := Tryd.prog) w 34 o.type w0.heap.size 30 i _ 3 56 Tryd.underlying34 hi0 hiz hi1 hi2 rfl (by decide) _ _ _ hown ⟨g0, 0, none⟩ 1 1 [.int .i64 y.1.piece, y.2.1, y.2.2] rfl hnews hone (by decide) (by unfold maxLen; omega) (by omega) h.owns.ext.size _ rfl
  rw [← rcells_snoc] at r1
  have hx1 : Ext w0 w' := h.owns.ext.grown r2 (fun k hk => own_ge hown k hk)
  have hlen : (x ++ [y]).length = x.length + 1 := by simp
  have hO2 : Owns w0 w' [⟨.slice (some ⟨g, 0, none⟩) (x.length + 1) cap, 30, 3, x.length + 1, rcells (x ++ [y])⟩] :=
    h.owns.put 0 ⟨.slice (some ⟨g, 0, none⟩) (x.length + 1) cap, 30, 3, x.length + 1, rcells (x ++ [y])⟩ hx1 r1 (fun j r hj hrr g' hg' => by
      match j, hj, hrr with
      | j + 1, _, hrr => simp at hrr) (fun j r hj hrr => by
      match j, hj, hrr with
      | j + 1, _, hrr => simp at hrr)
  have hcell : ∀ (ad : Addr) (u : Value), ad.block < w.heap.size → (Value.slice A x.length c).ownBlock ≠ some ad.block → w.cell? ad = some u → w'.cell? ad = some u := fun ad u hb hne hv => by
    unfold World.cell? at hv ⊢
    rw [r2.block ad.block hb (fun e => hne e.symm)]
    exact hv
  have hsz := r2.size
  have hgne : ∀ b, b < w.heap.size → (Value.slice A x.length c).ownBlock ≠ some b → (Value.slice (some ⟨g, 0, none⟩) (x ++ [y]).length cap).ownBlock ≠ some b := fun b hb hne e => by
    injection e with e
    have e : g = b := e
    subst e
    rcases r3 with r3 | r3
    · exact hne r3
    · omega
  have hT : TAt w0 w' (some ⟨g, 0, none⟩) cap (x ++ [y]) := by
    refine ⟨by rw [hlen]; exact hO2, fun q hq => ?_, fun q hq => ?_⟩
    rotate_left
    · rcases List.mem_append.1 hq with hq | hq
      · exact h.new q hq
      · rw [List.mem_singleton.1 hq]; exact hnew
    have hq3 : Rs RI w q.2.1 q.1.src ∧ Rs RB w q.2.2 q.1.coef ∧ ∀ b, q.2.1.ownBlock = some b ∨ q.2.2.ownBlock = some b → b < w.heap.size ∧ (Value.slice A x.length c).ownBlock ≠ some b := by
      rcases List.mem_append.1 hq with hq | hq
      · exact h.ok q hq
      · rw [List.mem_singleton.1 hq]; exact ⟨hf, hc, hfar⟩
    refine ⟨Rs.far (fun _ _ _ _ h => h) hq3.1 fun ad u e hv => hcell ad u (hq3.2.2 _ (.inl e)).1 (hq3.2.2 _ (.inl e)).2 hv, Rs.far (fun _ _ _ _ h => h) hq3.2.1 fun ad u e hv => hcell ad u (hq3.2.2 _ (.inr e)).1 (hq3.2.2 _ (.inr e)).2 hv, fun b hb => ?_⟩
    have hb2 := hq3.2.2 b hb
    exact ⟨by omega, hgne b hb2.1 hb2.2⟩
  unfold Oper.wp execOp
  simp only [ho, resolve, invoke, builtin, Sem.run_bind, Sem.run_pure, Result.andThen_ok, List.map_toArray, List.map_cons, List.map_nil, hs, hx, hr]
  exact hK' _ _ (hK g cap w' (Lib.hid hT))
end Go.Proofs.YtdmljilcbndmfaaDoor

/- THE WALK over All of the specification of rebuilds. -/
namespace Rb
theorem choose_range {n lost : Nat} {p : Int} {many : Nat} (f : List Int) (hf : f ∈ choose (avail n lost p) many) : f.length = many ∧ ∀ x ∈ f, 0 ≤ x ∧ x < (n : Int) := by
  obtain ⟨h1, h2⟩ := (mem_choose _ _ _).mp hf
  refine ⟨h2, fun x hx => ?_⟩
  obtain ⟨k, hk, rfl, _⟩ := mem_avail.mp (h1.subset hx)
  omega
theorem rec_is {m : Mx.Mat} {p : Nat} {f : List Int} (h : recF m p f = 0) : recipe m p f = some (recD m p f) := by
  unfold recF at h
  unfold recD
  cases hr : recipe m p f with
  | none => rw [hr] at h; cases h
  | some r => rfl
theorem rec_not {m : Mx.Mat} {p : Nat} {f : List Int} (h : recF m p f ≠ 0) : recipe m p f = none ∧ recF m p f = 17 := by
  unfold recF at h ⊢
  cases hr : recipe m p f with
  | none => exact ⟨rfl, rfl⟩
  | some r => rw [hr] at h; exact absurd rfl h
end Rb
namespace Go.Proofs.YtdmljilcbndmfaaDoor
open Go.RowKit
/-- Recipes of the specification, or an error. -/
def ListedOut (w w' : World) (l : List Rb.Rec) (E : Int) (e : Ending) : Prop := ∃ v, e = .returned (.agg #[v, .int .i64 E]) ∧ RRs w' v l ∧ NewRs w.heap.size w' v ∧ Ext w w'
theorem TAt.news2 {w0 W W' : World} {A : Option Addr} {c : Nat} {x : List RV} (h : TAt w0 W A c x) (hk : ∀ (a : Addr) (u : Value), w0.heap.size ≤ a.block → W.cell? a = some u → W'.cell? a = some u) : NewRs w0.heap.size W' (.slice A x.length c) := by
  intro ad n c' e
  injection e with e1 e2 e3
  subst e1 e2
  have hr := h.owns.row 0 rfl
  refine ⟨(hr.lt ad.block rfl).1, fun i hi F C h1 h2 b hb => ?_⟩
  rcases hr.2 with ⟨e, _⟩ | ⟨g, cap, cur, hv, _⟩
  · cases e
  · injection hv with e1 e2 e3
    injection e1 with e1
    subst e1
    obtain ⟨_, c1, c2⟩ := rcells_at x i x[i] (List.getElem?_eq_getElem hi)
    have k1 := hr.cellAt (g := g) (i * 3 + 1) (by omega)
    have k2 := hr.cellAt (g := g) (i * 3 + 2) (by omega)
    have hg : w0.heap.size ≤ g := (hr.lt g rfl).1
    rw [c1] at k1
    rw [c2] at k2
    rw [Addr.add_lit] at h1 h2
    have e1 : W'.cell? ⟨g, i * 3 + 1, none⟩ = some F := by
      have : W'.cell? ⟨g, 0 + i * 3 + 1, none⟩ = some F := h1
      rwa [Nat.zero_add] at this
    have e2 : W'.cell? ⟨g, i * 3 + 2, none⟩ = some C := by
      have : W'.cell? ⟨g, 0 + i * 3 + 2, none⟩ = some C := h2
      rwa [Nat.zero_add] at this
    rw [hk _ _ hg k1] at e1
    rw [hk _ _ hg k2] at e2
    injection e1 with e1
    injection e2 with e2
    rw [← e1, ← e2] at hb
    exact h.new x[i] (List.getElem_mem _) b hb
end Go.Proofs.YtdmljilcbndmfaaDoor

/- WHAT READS OFF SOME BLOCKS; the drawn region of RebuildChoosesAsSpecified. -/
namespace Go.Proofs.YtdmljilcbndmfaaDoor
open Go.RowKit
/-- What holds wherever the cells outside some blocks are as they are here. -/
def Off (S : Nat → Prop) (Φ : World → Prop) (w : World) : Prop := ∀ w', (∀ (a : Addr) (u : Value), ¬ S a.block → w.cell? a = some u → w'.cell? a = some u) → Φ w'
theorem Off.mono {S S' : Nat → Prop} {Φ : World → Prop} {w : World} (h : Off S' Φ w) (hs : ∀ x, S x → S' x) : Off S Φ w := fun w' hk => h w' fun a u hn e => hk a u (fun hx => hn (hs _ hx)) e
theorem Off.next {S : Nat → Prop} {Φ : World → Prop} {w w1 : World} (h : Off S Φ w) (hx : Ext w w1) : Off S Φ w1 := fun w' hk => h w' fun a u hn e => hk a u hn (hx.cell e)
theorem Off.alloc {S S' : Nat → Prop} {Φ : World → Prop} {w : World} (h : Off S Φ w) (o : Obj) (hs : ∀ x, S' x → S x ∨ x = w.heap.size) : Off S' Φ (w.alloc o) := fun w' hk => h w' fun a u hn e => hk a u (fun hx => by
  rcases hs _ hx with h1 | h1
  · exact hn h1
  · have := lt_of_cell e; omega) (((Ext.refl w).alloc o).cell e)
theorem Off.store {S : Nat → Prop} {Φ : World → Prop} {w : World} {g k : Nat} {u : Value} (h : Off S Φ w) (hg : S g) : Off S Φ (w.setCell ⟨g, k, none⟩ u) := fun w' hk => h w' fun a v hn e => hk a v hn (by rw [cell_far _ (fun e2 => hn (by have : a.block = g := e2; rw [this]; exact hg))]; exact e)
/-- Two slices read as a recipe. -/
def RecIs (w : World) (r : Rb.Rec) (F C : Value) : Prop := Rs RI w F r.src ∧ Rs RB w C r.coef
theorem RecIs.off {lo : Nat} {w : World} {r : Rb.Rec} {F C : Value} (h1 : Rs RI w F r.src) (h2 : Rs RB w C r.coef) (hf : ∀ b, F.ownBlock = some b ∨ C.ownBlock = some b → lo ≤ b) : Off (fun x => x < lo) (fun W => RecIs W r F C) w := fun w' hk =>
  ⟨Rs.far (fun _ _ _ _ h => h) h1 fun a u e hv => hk a u (by have := hf _ (.inl e); omega) hv, Rs.far (fun _ _ _ _ h => h) h2 fun a u e hv => hk a u (by have := hf _ (.inr e); omega) hv⟩
theorem RRs.off {lo : Nat} {w : World} {v : Value} {l : List Rb.Rec} (h : RRs w v l) (hn : NewRs lo w v) : Off (fun x => x < lo) (fun W => RRs W v l) w := fun w' hk => by
  obtain ⟨A, c, rfl, hl, hh⟩ := h
  refine ⟨A, c, rfl, hl, fun i r hi => ?_⟩
  obtain ⟨ad, F, C, h1, h2, h3, h4, h5, h6⟩ := hh i r hi
  subst h1
  obtain ⟨n1, n2⟩ := hn ad _ _ rfl
  have hil := (List.getElem?_eq_some_iff.1 hi).1
  have n3 := n2 i hil F C h3 h4
  have hb : ¬ (ad.add (i * 3)).block < lo := by rw [block_add]; omega
  exact ⟨ad, F, C, rfl, hk _ _ hb h2, hk _ _ hb h3, hk _ _ hb h4, Rs.far (fun _ _ _ _ h => h) h5 fun a u e hv => hk a u (by have := n3 _ (.inl e); omega) hv, Rs.far (fun _ _ _ _ h => h) h6 fun a u e hv => hk a u (by have := n3 _ (.inr e); omega) hv⟩
end Go.Proofs.YtdmljilcbndmfaaDoor

/- THE WALK over together of the specification of rebuilds. -/
namespace Rb
def togE (m : Mx.Mat) (f : List Int) (ps : List Nat) : Int := if (together m f ps).isSome then 0 else 17
theorem togE_none {m : Mx.Mat} {f : List Int} {ps : List Nat} (h : together m f ps = none) : togE m f ps = 17 := by unfold togE; rw [h]; rfl
theorem togE_some {m : Mx.Mat} {f : List Int} {ps : List Nat} {l : List Rec} (h : together m f ps = some l) : togE m f ps = 0 := by unfold togE; rw [h]; rfl
end Rb
namespace Go.Proofs.YtdmljilcbndmfaaDoor
open Go.RowKit
set_option maxHeartbeats 16000000 in
set_option maxRecDepth 100000 in
theorem sTogether_any (d gl : Int) (gs : List (List Int)) (n lost : Nat) (f : List Int) (G vf : Value) (w : World) (hG : Rs (Rs RI) w G gs) (hgn : gs.length ≤ 4611686018427387904) (hck : Cd.check d gs gl = 0) (hnn : (Cd.rowsOf d gs gl).length = n) (hn16 : n ≤ 16) (hl : lost < 2 ^ 40) (hF : Rs RI w vf f) (hf : f.length ≤ 16) (hfm : ∀ i ∈ f, 0 ≤ i ∧ i < (n : Int)) :
    Calls Tryd.prog 51 #[.agg #[.int .i64 d, G, .int .i64 gl], .int .i64 (lost : Nat), vf] w fun e w' => ListedOut w w' ((Rb.together (Cd.rowsOf d gs gl) f (Rb.lostP lost n)).getD []) (Rb.togE (Cd.rowsOf d gs gl) f (Rb.lostP lost n)) e := by
  have hpn : Cd.pieces d gs gl = (n : Int) := by rw [Cd.pieces_ok hck, ← Cd.rowsOf_len hck, hnn]
  have HCK := Lib.hid (And.intro hck (And.intro hnn (And.intro hpn hl)))
  have HF := Lib.hid (And.intro hF (And.intro hf hfm))
  obtain ⟨SA, cf, rfl, _⟩ := hF.form
  obtain ⟨nf, hnf⟩ : ∃ nf, f.length = nf := ⟨_, rfl⟩
  rw [hnf] at HF ⊢
  clear hck hnn hpn hl hF hf hfm
  obtain ⟨GA, Gc, rfl, _⟩ := hG.form
  obtain ⟨ng, hng⟩ : ∃ ng, gs.length = ng := ⟨_, rfl⟩
  rw [hng] at hG ⊢
  have hB : Owns w ((w.alloc (.cells #[.int .i64 d, .slice GA ng Gc, .int .i64 gl] 24)).alloc (.cells #[.slice none 0 0, .int .i64 0] 42)) [⟨.slice (some ⟨w.heap.size, 0, none⟩) 3 3, 24, 1, 3, [.int .i64 d, .slice GA ng Gc, .int .i64 gl]⟩, ⟨.slice (some ⟨(w.alloc (.cells #[.int .i64 d, .slice GA ng Gc, .int .i64 gl] 24)).heap.size, 0, none⟩) 2 2, 42, 1, 2, [.slice none 0 0, .int .i64 0]⟩] :=
    ((Owns.start w (L := [no, no]) (by intro r hr; simp at hr; subst hr; exact ⟨rfl, rfl, rfl⟩)).new 0 #[.int .i64 d, .slice GA ng Gc, .int .i64 gl] 24 (by simp [maxLen])).new 1 #[.slice none 0 0, .int .i64 0] 42 (by simp [maxLen])
  have hsz : (w.alloc (.cells #[.int .i64 d, .slice GA ng Gc, .int .i64 gl] 24)).heap.size = w.heap.size + 1 := by simp
  rw [hsz] at hB
  clear hsz
  have HG := Lib.hid (And.intro hG hgn)
  have HB := Lib.hid hB
  clear hG hB hgn hng
  go_enter Tryd.func51, Tryd.ntmps51
  go_upto_region 1 with fail
  obtain ⟨C, hC⟩ : ∃ C, w.heap.size = C := ⟨_, rfl⟩
  obtain ⟨Q, hQ⟩ : ∃ Q, C + 1 = Q := ⟨_, rfl⟩
  rw [hC, hQ] at HB
  rw [hC]
  try rw [hQ]
  obtain ⟨w1, hw1⟩ : ∃ x, (w.alloc (.cells #[.int .i64 d, .slice GA ng Gc, .int .i64 gl] 24)).alloc (.cells #[.slice none 0 0, .int .i64 0] 42) = x := ⟨_, rfl⟩
  rw [hw1] at HB ⊢
  have HC0 := Lib.hid hC
  clear hw1 hQ hC
  clear HC0
  go_wp2_with fail
  go_loopw [7, 8] (fun v7 v8 wr => ∃ (k m c : Nat) (A : Option Addr), k ≤ n ∧ m ≤ k ∧ v8 = .int .i64 (k : Nat) ∧ v7 = .slice A m c ∧ Hid (∃ xs : List RV, xs.length = m ∧ TAt w1 wr A c xs ∧ Rb.together (Cd.rowsOf d gs gl) f (Rb.lostP lost k) = some (xs.map (·.1)))) (fun _ v8 _ => n - (intOf v8).toNat)
  case atStart => exact ⟨0, 0, 0, none, Nat.zero_le _, Nat.le_refl _, rfl, rfl, Lib.hid ⟨[], rfl, ⟨Owns.start w1 (by intro r hr; simp at hr; subst hr; exact ⟨rfl, rfl, rfl⟩), (fun y hy => by cases hy), (fun y hy => by cases hy)⟩, rfl⟩⟩
  case round =>
    obtain ⟨k, m, c, A, hk, hmk, rfl, rfl, HI⟩ := hrel
    obtain ⟨xs, hxm, hT, htg⟩ := HI.out
    have hOr := HB.out.next hT.owns.ext
    have b0 : wr.cell? ⟨C, 0, none⟩ = some (.int .i64 d) := hOr.cell 0 rfl 0 rfl
    have b1 : wr.cell? ⟨C, 1, none⟩ = some (.slice GA ng Gc) := hOr.cell 0 rfl 1 rfl
    have b2 : wr.cell? ⟨C, 2, none⟩ = some (.int .i64 gl) := hOr.cell 0 rfl 2 rfl
    have hp := rPieces_any d gl gs _ wr (Rs.ext (Rs.ext RI.ext) _ _ _ _ hOr.ext HG.out.1) HG.out.2
    rw [HCK.out.2.2.1] at hp
    have HP := Lib.hid hp
    have HT := Lib.hid (And.intro hxm (And.intro hT (And.intro htg hOr)))
    clear hp hxm hT htg hOr HI
    go_wp2_with fail
    refine HP.out.mono ?_
    clear HP
    rintro e w2 ⟨rfl, hx2⟩
    have HT2 := Lib.hid (And.intro HT.out.1 (And.intro (HT.out.2.1.next hx2) (And.intro HT.out.2.2.1 (HT.out.2.2.2.next hx2))))
    clear b0 b1 b2 hx2 HT
    by_cases hlt : k < n
    · obtain ⟨bt, hbt⟩ : ∃ bt, decide (lost / 2 ^ k % 2 = 1) = bt := ⟨_, rfl⟩
      have hin := sIn_any lost k w2 HCK.out.2.2.2 (by omega)
      rw [hbt] at hin
      have HIN := Lib.hid hin
      have hbit : Cd.bitAt lost k = 0 ↔ bt = false := by
        rw [← hbt, decide_eq_false_iff_not]
        have : lost / 2 ^ k % 2 < 2 := Nat.mod_lt _ (by decide)
        show lost / 2 ^ k % 2 = 0 ↔ _
        omega
      have HBT := Lib.hid hbit
      clear hin hbt hbit
      go_wp2_with fail
      refine HIN.out.mono ?_
      clear HIN
      rintro e w' ⟨rfl, rfl⟩
      cases bt with
      | false =>
        have hlp := Rb.lostP_no (HBT.out.2 rfl)
        have HNX := Lib.hid (show ∃ xs : List RV, xs.length = m ∧ TAt w1 w2 A c xs ∧ Rb.together (Cd.rowsOf d gs gl) f (Rb.lostP lost (k + 1)) = some (xs.map (·.1)) from ⟨xs, HT2.out.1, HT2.out.2.1, by rw [hlp]; exact HT2.out.2.2.1⟩)
        clear hlp HT2
        go_wp2_with fail
        go_roundw
        case rel => exact ⟨k + 1, m, c, A, by omega, by omega, by go_num, (by first | trivial | rfl), HNX⟩
        case measure => simp [intOf]; omega
      | true =>
        have hlp := Rb.lostP_yes (show Cd.bitAt lost k ≠ 0 from fun h => by have := HBT.out.1 h; cases this)
        obtain ⟨r, hr⟩ : ∃ r, Rb.recD (Cd.rowsOf d gs gl) k f = r := ⟨_, rfl⟩
        obtain ⟨ee, hee⟩ : ∃ ee, Rb.recF (Cd.rowsOf d gs gl) k f = ee := ⟨_, rfl⟩
        have hcks := Cd.check_ok HCK.out.1
        have hcall := sRecipe_any d gl gs k d.toNat f (.slice GA ng Gc) (.slice SA nf cf) w2 (Rs.ext (Rs.ext RI.ext) _ _ _ _ HT2.out.2.2.2.ext HG.out.1) HG.out.2 (Rs.ext RI.ext _ _ _ _ HT2.out.2.2.2.ext HF.out.1) (fun r hr => rows_wide HCK.out.1 hr) (by omega) (by omega) (by rw [hnf]; have := HF.out.2.1; omega) (by rw [HCK.out.2.1]; exact hlt) (by rw [HCK.out.2.1]; omega) (fun i hi => by rw [HCK.out.2.1]; exact HF.out.2.2 i hi)
        rw [hr, hee] at hcall
        have HCALL := Lib.hid hcall
        have HRE := Lib.hid (And.intro hr (And.intro hee hlp))
        have b0 : w2.cell? ⟨C, 0, none⟩ = some (.int .i64 d) := HT2.out.2.2.2.cell 0 rfl 0 rfl
        have b1 : w2.cell? ⟨C, 1, none⟩ = some (.slice GA ng Gc) := HT2.out.2.2.2.cell 0 rfl 1 rfl
        have b2 : w2.cell? ⟨C, 2, none⟩ = some (.int .i64 gl) := HT2.out.2.2.2.cell 0 rfl 2 rfl
        clear hlp hr hee hcks hcall
        go_wp2_with fail
        refine HCALL.out.mono ?_
        clear HCALL
        rintro e w3 ⟨F, C3, rfl, hF3, hC3, hfF, hfC, hx3⟩
        obtain ⟨FA, fc, rfl, _⟩ := hF3.form
        obtain ⟨CA, cc, rfl, _⟩ := hC3.form
        obtain ⟨n1, hn1⟩ : ∃ n1, r.src.length = n1 := ⟨_, rfl⟩
        obtain ⟨n2, hn2⟩ : ∃ n2, r.coef.length = n2 := ⟨_, rfl⟩
        rw [hn1] at hF3 hfF ⊢
        rw [hn2] at hC3 hfC ⊢
        have hR3 : RecAt w2 w3 r (.slice FA n1 fc) (.slice CA n2 cc) := ⟨hF3, hC3, hfF, hfC⟩
        have hO4 := (Owns.start w3 (L := [no]) (by intro r hr; simp at hr; subst hr; exact ⟨rfl, rfl, rfl⟩)).new 0 #[.int .i64 r.piece, .slice FA n1 fc, .slice CA n2 cc, .int .i64 ee] 39 (by simp [maxLen])
        have hRx := hR3.next hO4.ext
        have hxx := hx3.trans hO4.ext
        have HOx := Lib.hid hO4
        have HRx := Lib.hid (And.intro hRx (And.intro hxx (And.intro (HT2.out.2.1.next hxx) (HT2.out.2.2.2.next hxx))))
        clear b0 b1 b2 hF3 hC3 hfF hfC hx3 hR3 hO4 hRx hxx
        go_upto_region 8 with fail
        obtain ⟨wx, hwx⟩ : ∃ x, w3.alloc (.cells #[.int .i64 r.piece, .slice FA n1 fc, .slice CA n2 cc, .int .i64 ee] 39) = x := ⟨_, rfl⟩
        obtain ⟨gM, hgM⟩ : ∃ x, w3.heap.size = x := ⟨_, rfl⟩
        rw [hwx] at HOx HRx ⊢
        rw [hgM] at HOx ⊢
        clear hwx hgM
        have e3 := HOx.out.cell 0 rfl 3 rfl
        have hxm := HT2.out.1
        by_cases hz : ee = 0
        · subst hz
          have hrec := Rb.rec_is HRE.out.2.1
          rw [HRE.out.1] at hrec
          have hnx := Rb.together_snoc HT2.out.2.2.1 hrec
          rw [← HRE.out.2.2] at hnx
          have e0 := HOx.out.cell 0 rfl 0 rfl
          have e1 := HOx.out.cell 0 rfl 1 rfl
          have e2 := HOx.out.cell 0 rfl 2 rfl
          have hxa : Ext wx (wx.alloc (.cells #[.int .i64 r.piece, .slice FA n1 fc, .slice CA n2 cc] 30)) := (Ext.refl wx).alloc _
          have HTA := Lib.hid (HRx.out.2.2.1.next hxa)
          have HRA := Lib.hid (HRx.out.1.next hxa)
          have HNX := Lib.hid hnx
          have hob : ∀ b, (Value.slice A xs.length c).ownBlock = some b → b < w2.heap.size := fun b hb => ((HT2.out.2.1.owns.row 0 rfl).lt b hb).2
          have HFAR : Hid (∀ b, (Value.slice FA n1 fc).ownBlock = some b ∨ (Value.slice CA n2 cc).ownBlock = some b → b < (wx.alloc (.cells #[.int .i64 r.piece, .slice FA n1 fc, .slice CA n2 cc] 30)).heap.size ∧ (Value.slice A xs.length c).ownBlock ≠ some b) := Lib.hid fun b hb => ⟨HRA.out.old b hb, fun h => by have h1 := hob b h; have h2 := HRx.out.1.new b hb; omega⟩
          have HNEW : Hid (∀ b, (Value.slice FA n1 fc).ownBlock = some b ∨ (Value.slice CA n2 cc).ownBlock = some b → w1.heap.size ≤ b) := Lib.hid fun b hb => by have h1 := HRx.out.1.new b hb; have h2 := HT2.out.2.1.owns.ext.size; omega
          have hml : m < 1000000 := by omega
          have c0 : (wx.alloc (.cells #[.int .i64 r.piece, .slice FA n1 fc, .slice CA n2 cc] 30)).cell? ⟨wx.heap.size, 0, none⟩ = some (.int .i64 r.piece) := cell_of_row _ _ 0 _ _ (0, 0) (heap_new _ _)
          have c1 : (wx.alloc (.cells #[.int .i64 r.piece, .slice FA n1 fc, .slice CA n2 cc] 30)).cell? ⟨wx.heap.size, 1, none⟩ = some (.slice FA n1 fc) := cell_of_row _ _ 1 _ _ (0, 0) (heap_new _ _)
          have c2 : (wx.alloc (.cells #[.int .i64 r.piece, .slice FA n1 fc, .slice CA n2 cc] 30)).cell? ⟨wx.heap.size, 2, none⟩ = some (.slice CA n2 cc) := cell_of_row _ _ 2 _ _ (0, 0) (heap_new _ _)
          have HCC := Lib.hid (And.intro c0 (And.intro c1 c2))
          clear hrec hnx hxa hob c0 c1 c2 hn1 hn2
          subst hxm
          go_wp2_with (refine wpl_append_tmp (y := (r, .slice FA n1 fc, .slice CA n2 cc)) rfl (.tmp 31) (.tmp 34) rfl HTA.out rfl rfl HCC.out.1 HCC.out.2.1 HCC.out.2.2 HRA.out.f HRA.out.c HFAR.out HNEW.out hml ?_; intro g9 c9 w9 HT9)
          go_roundw
          case rel => exact ⟨k + 1, xs.length + 1, c9, some ⟨g9, 0, none⟩, by omega, by omega, by go_num, (by first | trivial | rfl), Lib.hid ⟨xs ++ [(r, .slice FA n1 fc, .slice CA n2 cc)], by rw [List.length_append]; rfl, HT9.out, by rw [HNX.out, List.map_append]; rfl⟩⟩
          case measure => simp [intOf]; omega
        · have hrec := Rb.rec_not (show Rb.recF (Cd.rowsOf d gs gl) k f ≠ 0 by rw [HRE.out.2.1]; exact hz)
          have hee : ee = 17 := by rw [← HRE.out.2.1]; exact hrec.2
          subst hee
          obtain ⟨qs, hqs⟩ := Rb.lostP_prefix lost (show k + 1 ≤ n from hlt)
          have hno := Rb.together_none (m := Cd.rowsOf d gs gl) (f := f) (ps := Rb.lostP lost k) (qs := qs) hrec.1
          rw [← HRE.out.2.2, ← hqs] at hno
          have hO := HRx.out.2.2.2
          have q0 := hO.cell 1 rfl 0 rfl
          have q1 := hO.cell 1 rfl 1 rfl
          have f0 : wx.frozen? ⟨Q, 0, none⟩ = false := hO.frozen 1 rfl 0
          have f1 : wx.frozen? ⟨Q, 1, none⟩ = false := hO.frozen 1 rfl 1
          have HS1 := Lib.hid (And.intro hno ((hO.store 1 rfl 0 (.slice none 0 0)).store 1 rfl 1 (.int .i64 17)).ext)
          clear hrec hqs hno hO hz hn1 hn2 hxm HRE HT2
          go_wp2_with fail
          refine bodyPost_ret (results_cell1 (v := .agg #[.slice none 0 0, .int .i64 17]) rfl rfl ?_) rfl ?_
          · go_simp
          rw [Rb.togE_none HS1.out.1, HS1.out.1]
          exact ⟨_, rfl, RRs.nil _, NewRs.nil _ _, HS1.out.2⟩
    · obtain rfl : k = n := by omega
      obtain ⟨hxm, hT, htg, hO⟩ := HT2.out
      have hQ5 : Q < w1.heap.size := ((HB.out.row 1 rfl).lt Q rfl).2
      have hml : m ≤ 1000000 := by omega
      subst hxm
      have hrr : RRs ((w2.setCell ⟨Q, 0, none⟩ (.slice A xs.length c)).setCell ⟨Q, 1, none⟩ (.int .i64 0)) (.slice A xs.length c) (xs.map (·.1)) := hT.rs hml fun a u ha hv => by
        have hne : a.block ≠ Q := by omega
        rw [cell_far _ hne, cell_far _ hne]; exact hv
      have hnew : NewRs w.heap.size ((w2.setCell ⟨Q, 0, none⟩ (.slice A xs.length c)).setCell ⟨Q, 1, none⟩ (.int .i64 0)) (.slice A xs.length c) := (hT.news2 (W' := (w2.setCell ⟨Q, 0, none⟩ (.slice A xs.length c)).setCell ⟨Q, 1, none⟩ (.int .i64 0)) fun a u ha hv => by
        have hne : a.block ≠ Q := by omega
        rw [cell_far _ hne, cell_far _ hne]; exact hv).low HB.out.ext.size
      have q0 := hO.cell 1 rfl 0 rfl
      have q1 := hO.cell 1 rfl 1 rfl
      have f0 : w2.frozen? ⟨Q, 0, none⟩ = false := hO.frozen 1 rfl 0
      have f1 : w2.frozen? ⟨Q, 1, none⟩ = false := hO.frozen 1 rfl 1
      have HS1 := Lib.hid (And.intro hrr (And.intro hnew (And.intro ((hO.store 1 rfl 0 (.slice A xs.length c)).store 1 rfl 1 (.int .i64 0)).ext htg)))
      clear hO hT htg hQ5 hml hrr hnew HT2
      obtain ⟨xl, hxl⟩ : ∃ xl, xs.length = xl := ⟨_, rfl⟩
      rw [hxl] at HS1 ⊢
      clear hxl
      go_wp2_with fail
      refine bodyPost_ret (results_cell1 (v := .agg #[.slice A xl c, .int .i64 0]) rfl rfl ?_) rfl ?_
      · go_simp
      rw [Rb.togE_some HS1.out.2.2.2, HS1.out.2.2.2]
      exact ⟨_, rfl, HS1.out.1, HS1.out.2.1, HS1.out.2.2.1⟩
end Go.Proofs.YtdmljilcbndmfaaDoor

/- THE DRAWN REGIONS of Joint of the specification of rebuilds. -/
namespace Go.Proofs.YtdmljilcbndmfaaDoor
open Go.RowKit
theorem ex_build2 {P : Program} {o : Oper} {a : Act} {w : World} {t : TypeId} {x y : Operand} {u v r : Value} (ho : o.op = .build t #[(0, x), (1, y)]) (hx : a.eval x = u) (hy : a.eval y = v) (hr : (Instr.build t #[(0, u), (1, v)]).run P w = .ok r w) : (execOp a.eval o).run P w = .ok (.value r) w := by
  unfold execOp
  simp only [ho, List.map_toArray, List.map_cons, List.map_nil, hx, hy, hr, Sem.run_bind, Sem.run_pure, Result.andThen_ok]
/-- All blocks that were there, and one more, as far as it is there. -/
def SC (lo : Nat) (p : Bool) (g : Nat) : Nat → Prop := fun x => x < lo ∨ (p = true ∧ x = g)
noncomputable def jt12_code : Code := ((Tryd.f21.body.bind (regionOf 12)).getD .skip)
def jt12_dsts : List (Option Nat) := [some 36, some 37, some 38, some 39, some 40, some 41, some 42, some 10, none]
theorem jt12_apart : apartD jt12_dsts = true := by decide +kernel
set_option maxRecDepth 1000000 in
set_option maxHeartbeats 16000000 in
theorem jt12 (wr : World) (C : Nat) (GA SA : Option Addr) (sd : Addr) (ng Gc q cq k lost nf cf nA : Nat) (d gl eA : Int) (lA : List Rb.Rec) (k0 : wr.cell? ⟨C, 0, none⟩ = some (.int .i64 d)) (k1 : wr.cell? ⟨C, 1, none⟩ = some (.slice GA ng Gc)) (k2 : wr.cell? ⟨C, 2, none⟩ = some (.int .i64 gl)) (ks : wr.cell? (sd.add k) = some (.slice SA nf cf)) (hkq : k < q) (hnA : lA.length = nA)
  (HC : Hid (∀ w1 : World, Ext wr w1 → Calls Tryd.prog 51 #[.agg #[.int .i64 d, .slice GA ng Gc, .int .i64 gl], .int .i64 (lost : Nat), .slice SA nf cf] w1 fun e w' => ListedOut w1 w' lA eA e)) (c0 c3 c4 c5 c6 c7 c10 c11 c12 c13 c14 c15 c16 c17 c18 c19 c20 c21 c22 c23 c24 c25 c26 c27 c28 c29 c30 c31 c32 c33 c34 c35 c36 c37 c38 c39 c40 c41 c42 c43 c44 c45 c46 c47 c48 c49 c50 c51 c52 c53 : Value) (df : List Deferred) (K : Act → World → Prop)
    (hK : ∀ (VA : Option Addr) (cA gM : Nat) (u36 u37 u38 u39 u40 u41 u42 : Value) (wx : World), (Owns wr wx [⟨.slice (some ⟨gM, 0, none⟩) 2 2, 42, 1, 2, [.slice VA nA cA, .int .i64 eA]⟩] ∧ Off (fun x => x < wr.heap.size) (fun W => RRs W (.slice VA nA cA) lA) wx) → K ⟨#[c0, .int .i64 (lost : Nat), .pointer (some ⟨C, 0, none⟩), c3, c4, c5, c6, c7, .slice (some sd) q cq, .int .i64 (k : Nat), .pointer (some ⟨gM, 0, none⟩), c11, c12, c13, c14, c15, c16, c17, c18, c19, c20, c21, c22, c23, c24, c25, c26, c27, c28, c29, c30, c31, c32, c33, c34, c35, u36, u37, u38, u39, u40, u41, u42, c43, c44, c45, c46, c47, c48, c49, c50, c51, c52, c53], df⟩ wx) :
    Code.wp Tryd.prog jt12_code (AtEnd K) ⟨#[c0, .int .i64 (lost : Nat), .pointer (some ⟨C, 0, none⟩), c3, c4, c5, c6, c7, .slice (some sd) q cq, .int .i64 (k : Nat), c10, c11, c12, c13, c14, c15, c16, c17, c18, c19, c20, c21, c22, c23, c24, c25, c26, c27, c28, c29, c30, c31, c32, c33, c34, c35, c36, c37, c38, c39, c40, c41, c42, c43, c44, c45, c46, c47, c48, c49, c50, c51, c52, c53], df⟩ wr := by
  conv => arg 2; whnf
  refine region_inv (by kernel_rfl) [[], [], [], [], [2, 3], [4], [0, 1, 5], [], [7, 6, 6, 0, 1, 2, 3, 4, 5, 6, 7]] (by kernel_rfl) [0, 1, 2, 3, 4, 5, 6, 7, 8] (by decide +kernel) (by decide +kernel) (by decide +kernel) (fun L a wc => ∃ (VA : Option Addr) (cA : Nat) (gM : Nat), InvO jt12_dsts [.agg #[.int .i64 d, .slice GA ng Gc, .int .i64 gl], .int .i64 (lost : Nat), .slice (some sd) q cq, .int .i64 (k : Nat), .pointer (some (sd.add k)), .slice SA nf cf, .agg #[.slice VA nA cA, .int .i64 eA], .pointer (some ⟨gM, 0, none⟩), undef] ⟨#[c0, .int .i64 (lost : Nat), .pointer (some ⟨C, 0, none⟩), c3, c4, c5, c6, c7, .slice (some sd) q cq, .int .i64 (k : Nat), c10, c11, c12, c13, c14, c15, c16, c17, c18, c19, c20, c21, c22, c23, c24, c25, c26, c27, c28, c29, c30, c31, c32, c33, c34, c35, c36, c37, c38, c39, c40, c41, c42, c43, c44, c45, c46, c47, c48, c49, c50, c51, c52, c53], df⟩ L a ∧ Hid (Owns wr wc [(if L 7 = true then (if L 8 = true then ⟨.slice (some ⟨gM, 0, none⟩) 2 2, 42, 1, 2, [.slice VA nA cA, .int .i64 eA]⟩ else ⟨.slice (some ⟨gM, 0, none⟩) 2 2, 42, 1, 2, [.slice none 0 0, .int .i64 0]⟩) else no)] ∧ (L 6 = true → Off (SC wr.heap.size (L 7) gM) (fun W => RRs W (.slice VA nA cA) lA) wc))) ⟨none, 0, 0, InvO.start, Lib.hid (And.intro (Owns.start1 wr) fun h => by cases h)⟩ ?_ ?_
  · refine ⟨?_, ?_, ?_, ?_, ?_, ?_, ?_, ?_, ?_, trivial⟩
    ·
      rintro L a wc ⟨VA, cA, gM, hv, HO⟩ hL hc hd
      have h0 : wc.cell? ⟨C, 0, none⟩ = some (.int .i64 d) := HO.out.1.ext.cell k0
      have h1 : wc.cell? ⟨C, 1, none⟩ = some (.slice GA ng Gc) := HO.out.1.ext.cell k1
      have h2 : wc.cell? ⟨C, 2, none⟩ = some (.int .i64 gl) := HO.out.1.ext.cell k2
      exact wpOp_val rfl rfl (ex_load rfl ((hv.fixed 2 (by decide)).trans rfl) (by go_simp)) ⟨VA, cA, gM, hv.put jt12_apart 0 rfl (lb rfl) (lb rfl) rfl, HO⟩
    ·
      rintro L a wc ⟨VA, cA, gM, hv, HO⟩ hL hc hd
      exact wpOp_val rfl rfl (ex_move rfl ((hv.fixed 1 (by decide)).trans rfl)) ⟨VA, cA, gM, hv.put jt12_apart 1 rfl (lb rfl) (lb rfl) rfl, HO⟩
    ·
      rintro L a wc ⟨VA, cA, gM, hv, HO⟩ hL hc hd
      exact wpOp_val rfl rfl (ex_move rfl ((hv.fixed 8 (by decide)).trans rfl)) ⟨VA, cA, gM, hv.put jt12_apart 2 rfl (lb rfl) (lb rfl) rfl, HO⟩
    ·
      rintro L a wc ⟨VA, cA, gM, hv, HO⟩ hL hc hd
      exact wpOp_val rfl rfl (ex_move rfl ((hv.fixed 9 (by decide)).trans rfl)) ⟨VA, cA, gM, hv.put jt12_apart 3 rfl (lb rfl) (lb rfl) rfl, HO⟩
    ·
      rintro L a wc ⟨VA, cA, gM, hv, HO⟩ hL hc hd
      have u1 : (0 : Int) ≤ (k : Int) := by omega
      have u2 : (k : Int) < (q : Int) := by omega
      exact wpOp_val rfl rfl (ex_index rfl (hv.get 2 rfl rfl (hd 2 (by decide))) (hv.get 3 rfl rfl (hd 3 (by decide))) (by go_simp)) ⟨VA, cA, gM, hv.put jt12_apart 4 rfl (lb rfl) (lb rfl) rfl, HO⟩
    ·
      rintro L a wc ⟨VA, cA, gM, hv, HO⟩ hL hc hd
      have h0 : wc.cell? (sd.add k) = some (.slice SA nf cf) := HO.out.1.ext.cell ks
      exact wpOp_val rfl rfl (ex_load rfl (hv.get 4 rfl rfl (hd 4 (by decide))) (by go_simp)) ⟨VA, cA, gM, hv.put jt12_apart 5 rfl (lb rfl) (lb rfl) rfl, HO⟩
    ·
      rintro L a wc ⟨VA, cA, gM, hv, HO⟩ hL hc hd
      have n8 : L 8 = false := Bool.eq_false_iff.2 fun h => Bool.false_ne_true (hL.symm.trans (hc 8 h 6 (by decide)))
      have hlt : ∀ x, SC wr.heap.size (L 7) gM x → x < wc.heap.size := fun x hx => by rcases hx with h | ⟨h, rfl⟩ <;> first | (have h2 := HO.out.1; rw [if_pos (show L 7 = true from h), if_neg (show ¬ (L 8 = true) from by simp [n8])] at h2; exact ((h2.row 0 rfl).lt _ rfl).2) | exact Nat.lt_of_lt_of_le h HO.out.1.ext.size
      refine wpOp_call (R := fun v w1 => ∃ A c, v = .agg #[.slice A nA c, .int .i64 eA] ∧ Off (fun x => x < wc.heap.size) (fun W => RRs W (.slice A nA c) lA) w1 ∧ Ext wc w1) rfl rfl (ex_call rfl rfl (map3c (hv.get 0 rfl rfl (hd 0 (by decide))) (hv.get 1 rfl rfl (hd 1 (by decide))) (hv.get 5 rfl rfl (hd 5 (by decide)))) (enters_of Tryd.func51 (by kernel_rfl) rfl _ _)) ((HC.out wc HO.out.1.ext).mono (fun e w' h => by obtain ⟨v, rfl, h1, h2, h3⟩ := h; obtain ⟨A, c, rfl, _⟩ := h1.form; rw [hnA] at h1 h2 ⊢; exact ⟨_, rfl, A, c, rfl, RRs.off h1 h2, h3⟩)) ?_
      rintro v w' ⟨V2, c2, rfl, hq, hx⟩
      have hO2 : Owns wr w' [(if L 7 = true then (if L 8 = true then ⟨.slice (some ⟨gM, 0, none⟩) 2 2, 42, 1, 2, [.slice V2 nA c2, .int .i64 eA]⟩ else ⟨.slice (some ⟨gM, 0, none⟩) 2 2, 42, 1, 2, [.slice none 0 0, .int .i64 0]⟩) else no)] := by have h := HO.out.1.next hx; rw [if_neg (show ¬ (L 8 = true) from by simp [n8])] at h ⊢; exact h
      exact ⟨V2, c2, gM, hv.put jt12_apart 6 rfl (lb rfl) (lb rfl) rfl, Lib.hid (And.intro hO2 (fun _ => hq.mono hlt))⟩
    ·
      rintro L a wc ⟨VA, cA, gM, hv, HO⟩ hL hc hd
      have n8 : L 8 = false := Bool.eq_false_iff.2 fun h => Bool.false_ne_true (hL.symm.trans (hc 8 h 7 (by decide)))
      have h := HO.out.1
      rw [if_neg (show ¬ (L 7 = true) from by simp [hL])] at h
      have h2 := h.new 0 #[.slice none 0 0, .int .i64 0] 42 (by simp [maxLen])
      have hA : (Instr.alloc 42 true (.tuple #[])).run Tryd.prog wc = .ok (.pointer (some ⟨wc.heap.size, 0, none⟩)) (wc.alloc (.cells #[.slice none 0 0, .int .i64 0] 42)) := by go_simp
      have h3 : Owns wr (wc.alloc (.cells #[.slice none 0 0, .int .i64 0] 42)) [(if upd L 7 7 = true then (if upd L 7 8 = true then ⟨.slice (some ⟨wc.heap.size, 0, none⟩) 2 2, 42, 1, 2, [.slice VA nA cA, .int .i64 eA]⟩ else ⟨.slice (some ⟨wc.heap.size, 0, none⟩) 2 2, 42, 1, 2, [.slice none 0 0, .int .i64 0]⟩) else no)] := by rw [if_pos (show upd L 7 7 = true from by simp [upd]), if_neg (show ¬ (upd L 7 8 = true) from by simp [upd, n8])]; exact h2
      exact wpOp_value rfl rfl (ex_alloc rfl hA) ⟨VA, cA, wc.heap.size, hv.put jt12_apart 7 rfl (lb rfl) (lb rfl) rfl, Lib.hid (And.intro h3 (fun h => (HO.out.2 h).alloc _ (fun x hx => by rcases hx with h | ⟨h, h'⟩ <;> first | exact Or.inr h' | exact Or.inl (Or.inl h))))⟩
    ·
      rintro L a wc ⟨VA, cA, gM, hv, HO⟩ hL hc hd
      have h7 : L 7 = true := hd 7 (by decide)
      have h6 : L 6 = true := hd 6 (by decide)
      have h := HO.out.1
      rw [if_pos h7, if_neg (show ¬ (L 8 = true) from by simp [hL])] at h
      have e0 := h.cell 0 rfl 0 rfl
      have e1 := h.cell 0 rfl 1 rfl
      have f0 : wc.frozen? ⟨gM, 0, none⟩ = false := h.frozen 0 rfl 0
      have f1 : wc.frozen? ⟨gM, 1, none⟩ = false := h.frozen 0 rfl 1
      have hS : SC wr.heap.size (L 7) gM gM := Or.inr ⟨h7, rfl⟩
      have hOw : Owns wr ((wc.setCell ⟨gM, 0, none⟩ (.slice VA nA cA)).setCell ⟨gM, 1, none⟩ (.int .i64 eA)) [(if upd L 8 7 = true then (if upd L 8 8 = true then ⟨.slice (some ⟨gM, 0, none⟩) 2 2, 42, 1, 2, [.slice VA nA cA, .int .i64 eA]⟩ else ⟨.slice (some ⟨gM, 0, none⟩) 2 2, 42, 1, 2, [.slice none 0 0, .int .i64 0]⟩) else no)] := by rw [if_pos (show upd L 8 7 = true from by simp [upd, h7]), if_pos (show upd L 8 8 = true from by simp [upd])]; exact (h.store 0 rfl 0 (.slice VA nA cA)).store 0 rfl 1 (.int .i64 eA)
      exact wpOp_skip rfl rfl rfl (ex_store (w' := (wc.setCell ⟨gM, 0, none⟩ (.slice VA nA cA)).setCell ⟨gM, 1, none⟩ (.int .i64 eA)) rfl (hv.get 7 rfl rfl h7) (hv.get 6 rfl rfl h6) (by go_simp)) ⟨VA, cA, gM, hv.skip 8 rfl, Lib.hid (And.intro hOw (fun h => ((HO.out.2 h).store hS).store hS))⟩
  · rintro L a wc ⟨VA, cA, gM, hv, HO⟩ hall
    show K a wc
    have ha := act_lit a
    rw [hv.size, hv.defers] at ha
    have hl : ∀ f : Nat → Value, ((List.range (⟨#[c0, .int .i64 (lost : Nat), .pointer (some ⟨C, 0, none⟩), c3, c4, c5, c6, c7, .slice (some sd) q cq, .int .i64 (k : Nat), c10, c11, c12, c13, c14, c15, c16, c17, c18, c19, c20, c21, c22, c23, c24, c25, c26, c27, c28, c29, c30, c31, c32, c33, c34, c35, c36, c37, c38, c39, c40, c41, c42, c43, c44, c45, c46, c47, c48, c49, c50, c51, c52, c53], df⟩ : Act).tmps.size).map f).toArray = #[f 0, f 1, f 2, f 3, f 4, f 5, f 6, f 7, f 8, f 9, f 10, f 11, f 12, f 13, f 14, f 15, f 16, f 17, f 18, f 19, f 20, f 21, f 22, f 23, f 24, f 25, f 26, f 27, f 28, f 29, f 30, f 31, f 32, f 33, f 34, f 35, f 36, f 37, f 38, f 39, f 40, f 41, f 42, f 43, f 44, f 45, f 46, f 47, f 48, f 49, f 50, f 51, f 52, f 53] := fun _ => rfl
    rw [hl] at ha
    simp only [hv.fixed 0 (by decide), hv.fixed 1 (by decide), hv.fixed 2 (by decide), hv.fixed 3 (by decide), hv.fixed 4 (by decide), hv.fixed 5 (by decide), hv.fixed 6 (by decide), hv.fixed 7 (by decide), hv.fixed 8 (by decide), hv.fixed 9 (by decide), hv.fixed 11 (by decide), hv.fixed 12 (by decide), hv.fixed 13 (by decide), hv.fixed 14 (by decide), hv.fixed 15 (by decide), hv.fixed 16 (by decide), hv.fixed 17 (by decide), hv.fixed 18 (by decide), hv.fixed 19 (by decide), hv.fixed 20 (by decide), hv.fixed 21 (by decide), hv.fixed 22 (by decide), hv.fixed 23 (by decide), hv.fixed 24 (by decide), hv.fixed 25 (by decide), hv.fixed 26 (by decide), hv.fixed 27 (by decide), hv.fixed 28 (by decide), hv.fixed 29 (by decide), hv.fixed 30 (by decide), hv.fixed 31 (by decide), hv.fixed 32 (by decide), hv.fixed 33 (by decide), hv.fixed 34 (by decide), hv.fixed 35 (by decide), hv.fixed 43 (by decide), hv.fixed 44 (by decide), hv.fixed 45 (by decide), hv.fixed 46 (by decide), hv.fixed 47 (by decide), hv.fixed 48 (by decide), hv.fixed 49 (by decide), hv.fixed 50 (by decide), hv.fixed 51 (by decide), hv.fixed 52 (by decide), hv.fixed 53 (by decide), hv.get 7 (d := 10) rfl rfl (hall 7 (by decide))] at ha
    rw [ha]
    have hO := HO.out
    rw [if_pos (hall 7 (by decide)), if_pos (hall 8 (by decide))] at hO
    exact hK VA cA gM _ _ _ _ _ _ _ wc ⟨hO.1, (hO.2 (hall 6 (by decide))).mono fun x hx => Or.inl hx⟩
noncomputable def jt14_code : Code := ((Tryd.f21.body.bind (regionOf 14)).getD .skip)
def jt14_dsts : List (Option Nat) := [some 46, some 47, some 48, some 49, some 50, some 51, some 52, none]
theorem jt14_apart : apartD jt14_dsts = true := by decide +kernel
set_option maxRecDepth 1000000 in
set_option maxHeartbeats 16000000 in
theorem jt14 (wr : World) (Q gM q cq k nf cf nA cA : Nat) (SA VA : Option Addr) (sd : Addr) (ks : wr.cell? (sd.add k) = some (.slice SA nf cf)) (hkq : k < q) (hM : wr.cell? ⟨gM, 0, none⟩ = some (.slice VA nA cA)) (q0 : wr.cell? ⟨Q, 0, none⟩ = some (.slice none 0 0)) (q1 : wr.cell? ⟨Q, 1, none⟩ = some (.slice none 0 0)) (q2 : wr.cell? ⟨Q, 2, none⟩ = some (.int .i64 0)) (f0 : wr.frozen? ⟨Q, 0, none⟩ = false) (f1 : wr.frozen? ⟨Q, 1, none⟩ = false) (f2 : wr.frozen? ⟨Q, 2, none⟩ = false) (c0 c1 c2 c3 c5 c6 c7 c11 c12 c13 c14 c15 c16 c17 c18 c19 c20 c21 c22 c23 c24 c25 c26 c27 c28 c29 c30 c31 c32 c33 c34 c35 c36 c37 c38 c39 c40 c41 c42 c43 c44 c45 c46 c47 c48 c49 c50 c51 c52 c53 : Value) (df : List Deferred) (K : Act → World → Prop)
    (hK : ∀  (u46 u47 u48 u49 u50 u51 u52 : Value) (wx : World), wx = ((wr.drew.setCell ⟨Q, 0, none⟩ (.slice SA nf cf)).setCell ⟨Q, 1, none⟩ (.slice VA nA cA)).setCell ⟨Q, 2, none⟩ (.int .i64 0) → K ⟨#[c0, c1, c2, c3, .pointer (some ⟨Q, 0, none⟩), c5, c6, c7, .slice (some sd) q cq, .int .i64 (k : Nat), .pointer (some ⟨gM, 0, none⟩), c11, c12, c13, c14, c15, c16, c17, c18, c19, c20, c21, c22, c23, c24, c25, c26, c27, c28, c29, c30, c31, c32, c33, c34, c35, c36, c37, c38, c39, c40, c41, c42, c43, c44, c45, u46, u47, u48, u49, u50, u51, u52, c53], df⟩ wx) :
    Code.wp Tryd.prog jt14_code (AtEnd K) ⟨#[c0, c1, c2, c3, .pointer (some ⟨Q, 0, none⟩), c5, c6, c7, .slice (some sd) q cq, .int .i64 (k : Nat), .pointer (some ⟨gM, 0, none⟩), c11, c12, c13, c14, c15, c16, c17, c18, c19, c20, c21, c22, c23, c24, c25, c26, c27, c28, c29, c30, c31, c32, c33, c34, c35, c36, c37, c38, c39, c40, c41, c42, c43, c44, c45, c46, c47, c48, c49, c50, c51, c52, c53], df⟩ wr := by
  conv => arg 2; whnf
  refine region_inv (by kernel_rfl) [[], [], [0, 1], [2], [], [4], [3, 5], [6, 0, 1, 2, 3, 4, 5, 6]] (by kernel_rfl) [0, 1, 2, 3, 4, 5, 6, 7] (by decide +kernel) (by decide +kernel) (by decide +kernel) (fun L a wc => Inv jt14_dsts [.slice (some sd) q cq, .int .i64 (k : Nat), .pointer (some (sd.add k)), .slice SA nf cf, .pointer (some ⟨gM, 0, none⟩), .slice VA nA cA, .agg #[.slice SA nf cf, .slice VA nA cA, .int .i64 0], undef] ⟨#[c0, c1, c2, c3, .pointer (some ⟨Q, 0, none⟩), c5, c6, c7, .slice (some sd) q cq, .int .i64 (k : Nat), .pointer (some ⟨gM, 0, none⟩), c11, c12, c13, c14, c15, c16, c17, c18, c19, c20, c21, c22, c23, c24, c25, c26, c27, c28, c29, c30, c31, c32, c33, c34, c35, c36, c37, c38, c39, c40, c41, c42, c43, c44, c45, c46, c47, c48, c49, c50, c51, c52, c53], df⟩ L a ∧ Hid ((L 7 = false → wc = wr.drew) ∧ (L 7 = true → wc = ((wr.drew.setCell ⟨Q, 0, none⟩ (.slice SA nf cf)).setCell ⟨Q, 1, none⟩ (.slice VA nA cA)).setCell ⟨Q, 2, none⟩ (.int .i64 0)))) ⟨Inv.start, Lib.hid ⟨fun _ => rfl, fun h => by cases h⟩⟩ ?_ ?_
  · refine ⟨?_, ?_, ?_, ?_, ?_, ?_, ?_, ?_, trivial⟩
    ·
      rintro L a wc ⟨hv, HO⟩ hL hc hd
      exact wpOp_val rfl rfl (ex_move rfl ((hv.fixed 8 (by decide)).trans rfl)) ⟨hv.put jt14_apart 0 rfl (lb rfl) (lb rfl) rfl, HO⟩
    ·
      rintro L a wc ⟨hv, HO⟩ hL hc hd
      exact wpOp_val rfl rfl (ex_move rfl ((hv.fixed 9 (by decide)).trans rfl)) ⟨hv.put jt14_apart 1 rfl (lb rfl) (lb rfl) rfl, HO⟩
    ·
      rintro L a wc ⟨hv, HO⟩ hL hc hd
      have u1 : (0 : Int) ≤ (k : Int) := by omega
      have u2 : (k : Int) < (q : Int) := by omega
      exact wpOp_val rfl rfl (ex_index rfl (hv.get 0 rfl rfl (hd 0 (by decide))) (hv.get 1 rfl rfl (hd 1 (by decide))) (by go_simp)) ⟨hv.put jt14_apart 2 rfl (lb rfl) (lb rfl) rfl, HO⟩
    ·
      rintro L a wc ⟨hv, HO⟩ hL hc hd
      have hw0 : wc = wr.drew := HO.out.1 (Bool.eq_false_iff.2 fun h => Bool.false_ne_true (hL.symm.trans (hc 7 h 3 (by decide))))
      have h0 : wc.cell? (sd.add k) = some (.slice SA nf cf) := (by rw [hw0]; exact ks)
      exact wpOp_val rfl rfl (ex_load rfl (hv.get 2 rfl rfl (hd 2 (by decide))) (by go_simp)) ⟨hv.put jt14_apart 3 rfl (lb rfl) (lb rfl) rfl, HO⟩
    ·
      rintro L a wc ⟨hv, HO⟩ hL hc hd
      exact wpOp_val rfl rfl (ex_field rfl ((hv.fixed 10 (by decide)).trans rfl) (by go_simp)) ⟨hv.put jt14_apart 4 rfl (lb rfl) (lb rfl) rfl, HO⟩
    ·
      rintro L a wc ⟨hv, HO⟩ hL hc hd
      have hw0 : wc = wr.drew := HO.out.1 (Bool.eq_false_iff.2 fun h => Bool.false_ne_true (hL.symm.trans (hc 7 h 5 (by decide))))
      have h0 : wc.cell? ⟨gM, 0, none⟩ = some (.slice VA nA cA) := (by rw [hw0]; exact hM)
      exact wpOp_val rfl rfl (ex_load rfl (hv.get 4 rfl rfl (hd 4 (by decide))) (by go_simp)) ⟨hv.put jt14_apart 5 rfl (lb rfl) (lb rfl) rfl, HO⟩
    ·
      rintro L a wc ⟨hv, HO⟩ hL hc hd
      exact wpOp_val rfl rfl (ex_build2 rfl (hv.get 3 rfl rfl (hd 3 (by decide))) (hv.get 5 rfl rfl (hd 5 (by decide))) (by go_simp)) ⟨hv.put jt14_apart 6 rfl (lb rfl) (lb rfl) rfl, HO⟩
    ·
      rintro L a wc ⟨hv, HO⟩ hL hc hd
      have hw0 : wc = wr.drew := HO.out.1 hL
      have p0 : wc.frozen? ⟨Q, 0, none⟩ = false := by rw [hw0]; exact f0
      have p1 : wc.frozen? ⟨Q, 1, none⟩ = false := by rw [hw0]; exact f1
      have p2 : wc.frozen? ⟨Q, 2, none⟩ = false := by rw [hw0]; exact f2
      have c0' : wc.cell? ⟨Q, 0, none⟩ = some (.slice none 0 0) := by rw [hw0]; exact q0
      have c1' : wc.cell? ⟨Q, 1, none⟩ = some (.slice none 0 0) := by rw [hw0]; exact q1
      have c2' : wc.cell? ⟨Q, 2, none⟩ = some (.int .i64 0) := by rw [hw0]; exact q2
      exact wpOp_skip rfl rfl rfl (ex_store (w' := ((wc.setCell ⟨Q, 0, none⟩ (.slice SA nf cf)).setCell ⟨Q, 1, none⟩ (.slice VA nA cA)).setCell ⟨Q, 2, none⟩ (.int .i64 0)) rfl ((hv.fixed 4 (by decide)).trans rfl) (hv.get 6 rfl rfl (hd 6 (by decide))) (by clear hw0; go_simp)) ⟨hv.skip 7 rfl, Lib.hid ⟨fun h => absurd h (by simp [upd]), fun _ => by rw [hw0]⟩⟩
  · rintro L a wc ⟨hv, HO⟩ hall
    show K a wc
    have ha := act_lit a
    rw [hv.size, hv.defers] at ha
    have hl : ∀ f : Nat → Value, ((List.range (⟨#[c0, c1, c2, c3, .pointer (some ⟨Q, 0, none⟩), c5, c6, c7, .slice (some sd) q cq, .int .i64 (k : Nat), .pointer (some ⟨gM, 0, none⟩), c11, c12, c13, c14, c15, c16, c17, c18, c19, c20, c21, c22, c23, c24, c25, c26, c27, c28, c29, c30, c31, c32, c33, c34, c35, c36, c37, c38, c39, c40, c41, c42, c43, c44, c45, c46, c47, c48, c49, c50, c51, c52, c53], df⟩ : Act).tmps.size).map f).toArray = #[f 0, f 1, f 2, f 3, f 4, f 5, f 6, f 7, f 8, f 9, f 10, f 11, f 12, f 13, f 14, f 15, f 16, f 17, f 18, f 19, f 20, f 21, f 22, f 23, f 24, f 25, f 26, f 27, f 28, f 29, f 30, f 31, f 32, f 33, f 34, f 35, f 36, f 37, f 38, f 39, f 40, f 41, f 42, f 43, f 44, f 45, f 46, f 47, f 48, f 49, f 50, f 51, f 52, f 53] := fun _ => rfl
    rw [hl] at ha
    simp only [hv.fixed 0 (by decide), hv.fixed 1 (by decide), hv.fixed 2 (by decide), hv.fixed 3 (by decide), hv.fixed 4 (by decide), hv.fixed 5 (by decide), hv.fixed 6 (by decide), hv.fixed 7 (by decide), hv.fixed 8 (by decide), hv.fixed 9 (by decide), hv.fixed 10 (by decide), hv.fixed 11 (by decide), hv.fixed 12 (by decide), hv.fixed 13 (by decide), hv.fixed 14 (by decide), hv.fixed 15 (by decide), hv.fixed 16 (by decide), hv.fixed 17 (by decide), hv.fixed 18 (by decide), hv.fixed 19 (by decide), hv.fixed 20 (by decide), hv.fixed 21 (by decide), hv.fixed 22 (by decide), hv.fixed 23 (by decide), hv.fixed 24 (by decide), hv.fixed 25 (by decide), hv.fixed 26 (by decide), hv.fixed 27 (by decide), hv.fixed 28 (by decide), hv.fixed 29 (by decide), hv.fixed 30 (by decide), hv.fixed 31 (by decide), hv.fixed 32 (by decide), hv.fixed 33 (by decide), hv.fixed 34 (by decide), hv.fixed 35 (by decide), hv.fixed 36 (by decide), hv.fixed 37 (by decide), hv.fixed 38 (by decide), hv.fixed 39 (by decide), hv.fixed 40 (by decide), hv.fixed 41 (by decide), hv.fixed 42 (by decide), hv.fixed 43 (by decide), hv.fixed 44 (by decide), hv.fixed 45 (by decide), hv.fixed 53 (by decide)] at ha
    rw [ha]
    exact hK _ _ _ _ _ _ _ wc (HO.out.2 (hall 7 (by decide)))
end Go.Proofs.YtdmljilcbndmfaaDoor

/- THE WALK over Joint of the specification of rebuilds. -/
namespace Rb
theorem err1_first {d gl : Int} {gs : List (List Int)} {lost : Int} : err1 d gl gs lost 0 = err0 d gl gs lost := by
  by_cases h : err0 d gl gs lost = 0
  · obtain ⟨hck, _⟩ := err0_zero h
    have h1 := Cd.rowsOf_len hck
    have h2 := Cd.check_ok hck
    rw [err1_ok h (by omega), h]
  · exact err1_bad h
theorem jointFrom_hit {m : Mx.Mat} {ps : List Nat} {l : List Int} {k many : Nat} {x : List Int × List Rec} (h : jointIn m ps (choose l many) = some x) : jointFrom m ps l (k + 1) many = some x := by rw [jointFrom_step, h]
theorem jointFrom_miss {m : Mx.Mat} {ps : List Nat} {l : List Int} {k many : Nat} (h : jointIn m ps (choose l many) = none) : jointFrom m ps l (k + 1) many = jointFrom m ps l k (many + 1) := by rw [jointFrom_step, h]
theorem tog_is {m : Mx.Mat} {f : List Int} {ps : List Nat} (h : togE m f ps = 0) : together m f ps = some ((together m f ps).getD []) := by
  unfold togE at h
  cases hr : together m f ps with
  | none => rw [hr] at h; cases h
  | some r => rfl
theorem tog_not {m : Mx.Mat} {f : List Int} {ps : List Nat} (h : togE m f ps ≠ 0) : together m f ps = none := by
  unfold togE at h
  cases hr : together m f ps with
  | none => rfl
  | some r => rw [hr] at h; exact absurd rfl h
end Rb
namespace Go.Proofs.YtdmljilcbndmfaaDoor
open Go.RowKit
/-- Each set that Choices returns lies in a block of its own. -/
theorem ChO.lowAt {w0 W : World} {q oc : Nat} {sd : Addr} {LL : List LRow} {ys : List (List Int)} (h : ChO w0 W q oc (some sd) LL ys) {k : Nat} (hk : k < q) {u : Value} (hc : W.cell? (sd.add k) = some u) : ∀ b, u.ownBlock = some b → w0.heap.size ≤ b := fun b hb => by
  obtain ⟨vs, hO, hvl, hyl, hin⟩ := h
  obtain ⟨g, c, m, _, hv, hmem⟩ := hin k hk
  obtain ⟨ad, hA, _, hc2⟩ := hO.rd 0 rfl k _ hv
  injection hA with hA
  subst hA
  rw [hc] at hc2
  injection hc2 with hc2
  obtain ⟨j, hj⟩ := List.getElem?_of_mem (List.mem_cons_of_mem _ hmem)
  exact ((hO.row j hj).lt b (by rw [← hc2]; exact hb)).1
/-- Pieces read, recipes, or an error. -/
def JoinedOut (w w' : World) (x : Option (List Int × List Rb.Rec)) (E : Int) (e : Ending) : Prop := ∃ v1 v2, e = .returned (.agg #[v1, v2, .int .i64 E]) ∧ Rs RI w' v1 ((x.map Prod.fst).getD []) ∧ RRs w' v2 ((x.map Prod.snd).getD []) ∧ Ext w w'
set_option maxHeartbeats 16000000 in
set_option maxRecDepth 100000 in
theorem sJoint_any (d gl : Int) (gs : List (List Int)) (lost : Int) (G : Value) (w : World) (hG : Rs (Rs RI) w G gs) (hgn : gs.length ≤ 4611686018427387904) :
    Calls Tryd.prog 21 #[.agg #[.int .i64 d, G, .int .i64 gl], .int .i64 lost] w fun e w' => JoinedOut w w' (Rb.jointR d gl gs lost) (Rb.jointE d gl gs lost) e := by
  obtain ⟨GA, Gc, rfl, _⟩ := hG.form
  obtain ⟨ng, hng⟩ : ∃ ng, gs.length = ng := ⟨_, rfl⟩
  rw [hng] at hG ⊢
  have hB : Owns w ((w.alloc (.cells #[.int .i64 d, .slice GA ng Gc, .int .i64 gl] 24)).alloc (.cells #[.slice none 0 0, .slice none 0 0, .int .i64 0] 51)) [⟨.slice (some ⟨w.heap.size, 0, none⟩) 3 3, 24, 1, 3, [.int .i64 d, .slice GA ng Gc, .int .i64 gl]⟩, ⟨.slice (some ⟨(w.alloc (.cells #[.int .i64 d, .slice GA ng Gc, .int .i64 gl] 24)).heap.size, 0, none⟩) 3 3, 51, 1, 3, [.slice none 0 0, .slice none 0 0, .int .i64 0]⟩] :=
    ((Owns.start w (L := [no, no]) (by intro r hr; simp at hr; subst hr; exact ⟨rfl, rfl, rfl⟩)).new 0 #[.int .i64 d, .slice GA ng Gc, .int .i64 gl] 24 (by simp [maxLen])).new 1 #[.slice none 0 0, .slice none 0 0, .int .i64 0] 51 (by simp [maxLen])
  have hsz : (w.alloc (.cells #[.int .i64 d, .slice GA ng Gc, .int .i64 gl] 24)).heap.size = w.heap.size + 1 := by simp
  rw [hsz] at hB
  clear hsz
  have HG := Lib.hid (And.intro hG hgn)
  have HB := Lib.hid hB
  clear hG hB hgn hng
  go_enter Tryd.func21, Tryd.ntmps21
  go_upto_region 1 with fail
  obtain ⟨C, hC⟩ : ∃ C, w.heap.size = C := ⟨_, rfl⟩
  obtain ⟨Q, hQ⟩ : ∃ Q, C + 1 = Q := ⟨_, rfl⟩
  rw [hC, hQ] at HB
  rw [hC]
  try rw [hQ]
  obtain ⟨w1, hw1⟩ : ∃ x, (w.alloc (.cells #[.int .i64 d, .slice GA ng Gc, .int .i64 gl] 24)).alloc (.cells #[.slice none 0 0, .slice none 0 0, .int .i64 0] 51) = x := ⟨_, rfl⟩
  rw [hw1] at HB ⊢
  have HC0 := Lib.hid hC
  clear hw1 hQ hC
  clear HC0
  have b0 : w1.cell? ⟨C, 0, none⟩ = some (.int .i64 d) := HB.out.cell 0 rfl 0 rfl
  have b1 : w1.cell? ⟨C, 1, none⟩ = some (.slice GA ng Gc) := HB.out.cell 0 rfl 1 rfl
  have b2 : w1.cell? ⟨C, 2, none⟩ = some (.int .i64 gl) := HB.out.cell 0 rfl 2 rfl
  have HW := Lib.hid (sWrong_any d gl gs lost 0 _ w1 (Rs.ext (Rs.ext RI.ext) _ _ _ _ HB.out.ext HG.out.1) HG.out.2)
  go_wp2_with fail
  refine HW.out.mono ?_
  clear HW
  rintro e w2 ⟨rfl, hx2⟩
  have HO2 := Lib.hid (HB.out.next hx2)
  clear hx2 b0 b1 b2 HB
  obtain ⟨er, her⟩ : ∃ er, Rb.err1 d gl gs lost 0 = er := ⟨_, rfl⟩
  rw [her]
  rw [Rb.err1_first] at her
  have HER := Lib.hid her
  clear her
  by_cases h0 : er = 0
  case neg =>
    have hne : (er == 0) = false := by rw [beq_eq_false_iff_ne]; exact h0
    have hne2 : (er != 0) = true := by rw [bne_iff_ne]; exact h0
    have hb := Rb.jointE_bad (show Rb.err0 d gl gs lost ≠ 0 by rw [HER.out]; exact h0)
    rw [HER.out] at hb
    have q0 := HO2.out.cell 1 rfl 0 rfl
    have q1 := HO2.out.cell 1 rfl 1 rfl
    have q2 := HO2.out.cell 1 rfl 2 rfl
    have f0 : w2.frozen? ⟨Q, 0, none⟩ = false := HO2.out.frozen 1 rfl 0
    have f1 : w2.frozen? ⟨Q, 1, none⟩ = false := HO2.out.frozen 1 rfl 1
    have f2 : w2.frozen? ⟨Q, 2, none⟩ = false := HO2.out.frozen 1 rfl 2
    have HS1 := Lib.hid (And.intro hb (((HO2.out.store 1 rfl 0 (.slice none 0 0)).store 1 rfl 1 (.slice none 0 0)).store 1 rfl 2 (.int .i64 er)))
    clear hb h0
    go_wp2_with fail
    refine bodyPost_ret (results_cell1 (v := .agg #[.slice none 0 0, .slice none 0 0, .int .i64 er]) rfl rfl ?_) rfl ?_
    · go_simp
    rw [HS1.out.1.1, HS1.out.1.2]
    exact ⟨_, _, rfl, Rs.nil _, RRs.nil _, HS1.out.2.ext⟩
  case pos =>
    subst h0
    obtain ⟨hck, hn16, hl0, hl1⟩ := Rb.err0_zero HER.out
    obtain ⟨n, hn⟩ : ∃ n, (Cd.rowsOf d gs gl).length = n := ⟨_, rfl⟩
    obtain ⟨L, rfl⟩ : ∃ L : Nat, lost = L := ⟨lost.toNat, by omega⟩
    rw [hn] at hn16 hl1
    have hL40 : L < 2 ^ 40 := by
      have h1 : (2 : Nat) ^ n ≤ 2 ^ 16 := Nat.pow_le_pow_right (by decide) hn16
      have h2 : L < 2 ^ n := by omega
      have h3 : (2 : Nat) ^ 16 ≤ 2 ^ 40 := by decide
      omega
    have hpn : Cd.pieces d gs gl = (n : Int) := by rw [Cd.pieces_ok hck, ← Cd.rowsOf_len hck, hn]
    obtain ⟨l, hl⟩ : ∃ l, Rb.avail n L (-1) = l := ⟨_, rfl⟩
    have hjo : ∀ x, Rb.joint (Cd.rowsOf d gs gl) (Rb.lostP L n) l = x → Rb.jointR d gl gs (L : Int) = x ∧ Rb.jointE d gl gs (L : Int) = if x.isSome then 0 else 17 := fun x hx => Rb.jointE_ok HER.out (by rw [hn, Int.toNat_natCast, hl]; exact hx)
    have HJO := Lib.hid hjo
    have HCK := Lib.hid (And.intro hck (And.intro hn (And.intro hl hL40)))
    have HAV := Lib.hid (sAvail_any d gl gs n L (-1) _ w2 (Rs.ext (Rs.ext RI.ext) _ _ _ _ HO2.out.ext HG.out.1) HG.out.2 hpn (by omega) hL40 (by omega) (by omega))
    have b0 : w2.cell? ⟨C, 0, none⟩ = some (.int .i64 d) := HO2.out.cell 0 rfl 0 rfl
    have b1 : w2.cell? ⟨C, 1, none⟩ = some (.slice GA ng Gc) := HO2.out.cell 0 rfl 1 rfl
    have b2 : w2.cell? ⟨C, 2, none⟩ = some (.int .i64 gl) := HO2.out.cell 0 rfl 2 rfl
    clear hck hl0 hl1 hn hL40 hpn hl hjo
    go_wp2_with fail
    refine HAV.out.mono ?_
    clear HAV
    rintro e w4 ⟨LA, ll, cL, rfl, hv, hx4, hmc, hm24⟩
    rw [HCK.out.2.2.1] at hv
    have hll : l.length = ll := (hv.len).symm
    have hll16 : ll ≤ 16 := by rw [← hll, ← HCK.out.2.2.1]; have := Rb.avail_length n L (-1); omega
    have HV4 := Lib.hid (And.intro hv (And.intro hll hmc))
    have HO4 := Lib.hid (HO2.out.next hx4)
    clear hv hx4 hmc hm24 hll b0 b1 b2
    go_wp2_with fail
    go_loopw [7] (fun v7 wr => ∃ many : Nat, many ≤ ll + 1 ∧ v7 = .int .i64 (many : Nat) ∧ Hid (Ext w4 wr ∧ Owns w wr [⟨.slice (some ⟨C, 0, none⟩) 3 3, 24, 1, 3, [.int .i64 d, .slice GA ng Gc, .int .i64 gl]⟩, ⟨.slice (some ⟨Q, 0, none⟩) 3 3, 51, 1, 3, [.slice none 0 0, .slice none 0 0, .int .i64 0]⟩] ∧ Rb.joint (Cd.rowsOf d gs gl) (Rb.lostP L n) l = Rb.jointFrom (Cd.rowsOf d gs gl) (Rb.lostP L n) l (ll + 1 - many) many)) (fun v7 _ => ll + 1 - (intOf v7).toNat)
    case atStart => exact ⟨0, by omega, rfl, Lib.hid ⟨Ext.refl _, HO4.out, by unfold Rb.joint; rw [HV4.out.2.1]; rfl⟩⟩
    case round =>
      obtain ⟨many, hm2, rfl, HI⟩ := hrel
      by_cases hgo : many ≤ ll
      · have hgo2 : (many : Int) ≤ (ll : Int) := by omega
        have HCH := Lib.hid (sChoices_any many l LA ll cL wr (by omega) (by omega) HV4.out.2.2 (Rs.ext RI.ext _ _ _ _ HI.out.1 HV4.out.1))
        go_wp2_with fail
        refine HCH.out.mono ?_
        clear HCH
        rintro e w5 ⟨SS, q, cq, LL, rfl, hch⟩
        obtain ⟨Y, hY⟩ : ∃ Y, Rb.choose l many = Y := ⟨_, rfl⟩
        have hYr : ∀ f ∈ Y, f.length ≤ 16 ∧ ∀ x ∈ f, 0 ≤ x ∧ x < (n : Int) := fun f hf => by
          rw [← hY, ← HCK.out.2.2.1] at hf
          have := Rb.choose_range f hf
          exact ⟨by omega, this.2⟩
        have hq16 : Y.length ≤ 65536 := by
          rw [← hY]
          have h1 := Rb.choose_len l many
          have h2 : 2 ^ l.length ≤ 2 ^ 16 := Nat.pow_le_pow_right (by decide) (by rw [HV4.out.2.1]; exact hll16)
          omega
        rw [hY] at hch
        have hYl : Y.length = q := by obtain ⟨vs, _, _, h, _⟩ := hch; exact h
        have hx5 : Ext wr w5 := by obtain ⟨vs, h, _⟩ := hch; exact h.ext
        have hrs := hch.rs (by omega) (fun f hf => ⟨by have := (hYr f hf).1; omega, fun x hx => by have := (hYr f hf).2 x hx; omega⟩)
        have hQr : Q < wr.heap.size := ((HI.out.2.1.row 1 rfl).lt Q rfl).2
        have hlow : ∀ (sd : Addr) (k : Nat) (u : Value), SS = some sd → k < q → w5.cell? (sd.add k) = some u → ∀ b, u.ownBlock = some b → b ≠ Q := fun sd k u hs hk hc b hb => by
          rw [hs] at hch
          have := hch.lowAt hk hc b hb
          omega
        have HLW := Lib.hid hlow
        rw [hYl] at hq16
        have HY := Lib.hid (And.intro hrs (And.intro hYl (And.intro hYr hY)))
        have HO5 := Lib.hid (And.intro (HI.out.1.trans hx5) (And.intro (HI.out.2.1.next hx5) HI.out.2.2))
        clear hch hYl hYr hx5 hrs HI hgo2 hY hlow hQr
        go_wp2_with fail
        go_loopw [9] (fun v9 wr => ∃ k : Nat, k ≤ q ∧ v9 = .int .i64 (k : Nat) ∧ Hid (Ext w5 wr ∧ ∀ f ∈ Y.take k, Rb.together (Cd.rowsOf d gs gl) f (Rb.lostP L n) = none)) (fun v9 _ => q - (intOf v9).toNat)
        case atStart => exact ⟨0, Nat.zero_le _, rfl, Lib.hid ⟨Ext.refl _, fun f hf => by simp at hf⟩⟩
        case round =>
          obtain ⟨k, hk, rfl, HI⟩ := hrel
          by_cases hlt : k < q
          · have hkY : k < Y.length := by rw [HY.out.2.1]; exact hlt
            obtain ⟨sd, u, hsd, hcs, hus⟩ := HY.out.1.at hkY
            have hlw := HLW.out sd k u hsd hlt hcs
            subst hsd
            obtain ⟨SA, cf, rfl, hjunk⟩ := hus.form
            clear hjunk
            have hYs : Y = Y.take k ++ Y[k] :: Y.drop (k + 1) := by rw [← List.drop_eq_getElem_cons hkY, List.take_append_drop]
            have htk : Y.take (k + 1) = Y.take k ++ [Y[k]] := List.take_succ_eq_append_getElem hkY
            obtain ⟨f, hf⟩ : ∃ f, Y[k] = f := ⟨_, rfl⟩
            have hfY := HY.out.2.2.1 f (by rw [← hf]; exact List.getElem_mem _)
            rw [hf] at hcs hus hYs htk hlw
            obtain ⟨nf, hnf⟩ : ∃ nf, f.length = nf := ⟨_, rfl⟩
            rw [hnf] at hcs hus hlw
            obtain ⟨lA, hlA⟩ : ∃ lA, (Rb.together (Cd.rowsOf d gs gl) f (Rb.lostP L n)).getD [] = lA := ⟨_, rfl⟩
            obtain ⟨ee, hee⟩ : ∃ ee, Rb.togE (Cd.rowsOf d gs gl) f (Rb.lostP L n) = ee := ⟨_, rfl⟩
            obtain ⟨nA, hnA⟩ : ∃ nA, lA.length = nA := ⟨_, rfl⟩
            have hOr := HO5.out.2.1.next HI.out.1
            have HCALL : Hid (∀ w1 : World, Ext wr w1 → Calls Tryd.prog 51 #[.agg #[.int .i64 d, .slice GA ng Gc, .int .i64 gl], .int .i64 (L : Nat), .slice SA nf cf] w1 fun e w' => ListedOut w1 w' lA ee e) := Lib.hid fun w1 hx1 => by
              have h := sTogether_any d gl gs n L f (.slice GA ng Gc) (.slice SA nf cf) w1 (Rs.ext (Rs.ext RI.ext) _ _ _ _ (hOr.ext.trans hx1) HG.out.1) HG.out.2 HCK.out.1 HCK.out.2.1 hn16 HCK.out.2.2.2 (Rs.ext RI.ext _ _ _ _ (HI.out.1.trans hx1) hus) hfY.1 hfY.2
              rw [hlA, hee] at h
              exact h
            have k0 := hOr.cell 0 rfl 0 rfl
            have k1 := hOr.cell 0 rfl 1 rfl
            have k2 := hOr.cell 0 rfl 2 rfl
            have ks := HI.out.1.cell hcs
            have HRE := Lib.hid (And.intro hlA (And.intro hee (And.intro htk (And.intro hYs hlw))))
            have HUS := Lib.hid (Rs.ext RI.ext _ _ _ _ HI.out.1 hus)
            clear hkY hcs hus hf htk hnf hfY hlA hee hYs hlw
            go_upto_region 12 with fail
            refine wp_atEnd' (jt12 wr C GA SA sd ng Gc q cq k L nf cf nA d gl ee lA k0 k1 k2 ks hlt hnA HCALL _ _ _ _ _ _ _ _ _ _ _ _ _ _ _ _ _ _ _ _ _ _ _ _ _ _ _ _ _ _ _ _ _ _ _ _ _ _ _ _ _ _ _ _ _ _ _ _ _ _ _ _ ?_)
            rintro VA cA gM u36 u37 u38 u39 u40 u41 u42 wx ⟨hOx, hRx⟩
            have hxs := hOx.ext.cell ks
            have HOx := Lib.hid (And.intro hOx (And.intro hRx (hOr.next hOx.ext)))
            have e1 := hOx.cell 0 rfl 1 rfl
            have HUX := Lib.hid (Rs.ext RI.ext _ _ _ _ hOx.ext HUS.out)
            have hQr : Q < wr.heap.size := ((hOr.row 1 rfl).lt Q rfl).2
            clear k0 k1 k2 ks HCALL hOr hOx hRx HUS hnA
            by_cases hz : ee = 0
            · subst hz
              have htg := Rb.tog_is HRE.out.2.1
              rw [HRE.out.1] at htg
              have hji : Rb.jointIn (Cd.rowsOf d gs gl) (Rb.lostP L n) (Rb.choose l many) = some (f, lA) := by
                rw [HY.out.2.2.2, HRE.out.2.2.2.1]
                exact Rb.jointIn_hit htg HI.out.2
              have hjj := HO5.out.2.2
              obtain ⟨fu, hfu⟩ : ∃ fu, ll + 1 - many = fu + 1 := ⟨ll - many, by omega⟩
              rw [hfu, Rb.jointFrom_hit hji] at hjj
              have hres := HJO.out _ hjj
              have hM0 := HOx.out.1.cell 0 rfl 0 rfl
              have q0 := HOx.out.2.2.cell 1 rfl 0 rfl
              have q1 := HOx.out.2.2.cell 1 rfl 1 rfl
              have q2 := HOx.out.2.2.cell 1 rfl 2 rfl
              have f0 : wx.frozen? ⟨Q, 0, none⟩ = false := HOx.out.2.2.frozen 1 rfl 0
              have f1 : wx.frozen? ⟨Q, 1, none⟩ = false := HOx.out.2.2.frozen 1 rfl 1
              have f2 : wx.frozen? ⟨Q, 2, none⟩ = false := HOx.out.2.2.frozen 1 rfl 2
              have hfar : ∀ b, (Value.slice SA nf cf).ownBlock = some b → b ≠ Q := HRE.out.2.2.2.2
              have hsrc := rs_set1 (Q := Q) (k := 2) (u := .int .i64 0) (fun _ _ _ _ h => h) (rs_set1 (Q := Q) (k := 1) (u := .slice VA nA cA) (fun _ _ _ _ h => h) (rs_set1 (Q := Q) (k := 0) (u := .slice SA nf cf) (fun _ _ _ _ h => h) (show Rs RI wx.drew (.slice SA nf cf) f from Rs.ext RI.ext _ _ _ _ (Ext.refl wx).drew HUX.out) hfar) hfar) hfar
              have hlist : RRs (((wx.drew.setCell ⟨Q, 0, none⟩ (.slice SA nf cf)).setCell ⟨Q, 1, none⟩ (.slice VA nA cA)).setCell ⟨Q, 2, none⟩ (.int .i64 0)) (.slice VA nA cA) lA := HOx.out.2.1 _ fun a u hn hv => by
                have hne : a.block ≠ Q := by omega
                rw [cell_far _ hne, cell_far _ hne, cell_far _ hne]; exact hv
              have HRES := Lib.hid (And.intro hres (And.intro hsrc (And.intro hlist (((HOx.out.2.2.drew.store 1 rfl 0 (.slice SA nf cf)).store 1 rfl 1 (.slice VA nA cA)).store 1 rfl 2 (.int .i64 0)).ext)))
              clear htg hji hjj hfu hres hfar hsrc hlist hQr HI
              go_upto_region 14 with fail
              refine wp_atEnd' (jt14 wx Q gM q cq k nf cf nA cA SA VA sd hxs hlt hM0 q0 q1 q2 f0 f1 f2 _ _ _ _ _ _ _ _ _ _ _ _ _ _ _ _ _ _ _ _ _ _ _ _ _ _ _ _ _ _ _ _ _ _ _ _ _ _ _ _ _ _ _ _ _ _ _ _ _ _ _ _ ?_)
              rintro u46 u47 u48 u49 u50 u51 u52 wy rfl
              have g0 : (((wx.drew.setCell ⟨Q, 0, none⟩ (.slice SA nf cf)).setCell ⟨Q, 1, none⟩ (.slice VA nA cA)).setCell ⟨Q, 2, none⟩ (.int .i64 0)).cell? ⟨Q, 0, none⟩ = some (.slice SA nf cf) := (((HOx.out.2.2.drew.store 1 rfl 0 (.slice SA nf cf)).store 1 rfl 1 (.slice VA nA cA)).store 1 rfl 2 (.int .i64 0)).cell 1 rfl 0 rfl
              have g1 : (((wx.drew.setCell ⟨Q, 0, none⟩ (.slice SA nf cf)).setCell ⟨Q, 1, none⟩ (.slice VA nA cA)).setCell ⟨Q, 2, none⟩ (.int .i64 0)).cell? ⟨Q, 1, none⟩ = some (.slice VA nA cA) := (((HOx.out.2.2.drew.store 1 rfl 0 (.slice SA nf cf)).store 1 rfl 1 (.slice VA nA cA)).store 1 rfl 2 (.int .i64 0)).cell 1 rfl 1 rfl
              have g2 : (((wx.drew.setCell ⟨Q, 0, none⟩ (.slice SA nf cf)).setCell ⟨Q, 1, none⟩ (.slice VA nA cA)).setCell ⟨Q, 2, none⟩ (.int .i64 0)).cell? ⟨Q, 2, none⟩ = some (.int .i64 0) := (((HOx.out.2.2.drew.store 1 rfl 0 (.slice SA nf cf)).store 1 rfl 1 (.slice VA nA cA)).store 1 rfl 2 (.int .i64 0)).cell 1 rfl 2 rfl
              obtain ⟨wz, hwz⟩ : ∃ wz, ((wx.drew.setCell ⟨Q, 0, none⟩ (.slice SA nf cf)).setCell ⟨Q, 1, none⟩ (.slice VA nA cA)).setCell ⟨Q, 2, none⟩ (.int .i64 0) = wz := ⟨_, rfl⟩
              rw [hwz] at HRES g0 g1 g2 ⊢
              clear hwz hxs hM0 q0 q1 q2 f0 f1 f2 e1
              go_wp2_with fail
              refine bodyPost_ret (results_cell1 (v := .agg #[.slice SA nf cf, .slice VA nA cA, .int .i64 0]) rfl rfl ?_) rfl ?_
              · go_simp
              rw [HRES.out.1.1, HRES.out.1.2]
              exact ⟨_, _, rfl, HRES.out.2.1, HRES.out.2.2.1, HRES.out.2.2.2⟩
            · have hno := Rb.tog_not (show Rb.togE (Cd.rowsOf d gs gl) f (Rb.lostP L n) ≠ 0 by rw [HRE.out.2.1]; exact hz)
              have hzb : (ee == 0) = false := by rw [beq_eq_false_iff_ne]; exact hz
              have HNX := Lib.hid (And.intro (HI.out.1.trans HOx.out.1.ext) (show ∀ g ∈ Y.take (k + 1), Rb.together (Cd.rowsOf d gs gl) g (Rb.lostP L n) = none from fun g hg => by
                rw [HRE.out.2.2.1] at hg
                rcases List.mem_append.1 hg with hg | hg
                · exact HI.out.2 g hg
                · rw [List.mem_singleton.1 hg]; exact hno))
              clear hno hz hxs hQr HI
              go_wp2_with fail
              go_roundw
              case rel => exact ⟨k + 1, by omega, by go_num, HNX⟩
              case measure => simp [intOf]; omega
          · obtain rfl : k = q := by omega
            have hall := HI.out.2
            rw [List.take_of_length_le (by rw [HY.out.2.1]; exact Nat.le_refl _)] at hall
            have hji : Rb.jointIn (Cd.rowsOf d gs gl) (Rb.lostP L n) (Rb.choose l many) = none := by
              rw [HY.out.2.2.2]
              exact Rb.jointIn_no hall
            have hjj := HO5.out.2.2
            obtain ⟨fu, hfu⟩ : ∃ fu, ll + 1 - many = fu + 1 := ⟨ll - many, by omega⟩
            rw [hfu, Rb.jointFrom_miss hji] at hjj
            have hfe : fu = ll + 1 - (many + 1) := by omega
            rw [hfe] at hjj
            have HNXT := Lib.hid (And.intro (HO5.out.1.trans HI.out.1) (And.intro (HO5.out.2.1.next HI.out.1) hjj))
            clear hall hji hjj hfu hfe HI
            go_wp2_with fail
            go_roundw
            case rel => exact ⟨many + 1, by omega, by go_num, HNXT⟩
            case measure => simp [intOf]; omega
      · obtain rfl : many = ll + 1 := by omega
        have hle := HI.out.2.2
        rw [Nat.sub_self] at hle
        have hres := HJO.out none hle
        have hO := HI.out.2.1
        have q0 := hO.cell 1 rfl 0 rfl
        have q1 := hO.cell 1 rfl 1 rfl
        have q2 := hO.cell 1 rfl 2 rfl
        have f0 : wr.frozen? ⟨Q, 0, none⟩ = false := hO.frozen 1 rfl 0
        have f1 : wr.frozen? ⟨Q, 1, none⟩ = false := hO.frozen 1 rfl 1
        have f2 : wr.frozen? ⟨Q, 2, none⟩ = false := hO.frozen 1 rfl 2
        have HS1 := Lib.hid (And.intro hres (((hO.store 1 rfl 0 (.slice none 0 0)).store 1 rfl 1 (.slice none 0 0)).store 1 rfl 2 (.int .i64 17)).ext)
        obtain ⟨N1, hM⟩ : ∃ N1, ll + 1 = N1 := ⟨_, rfl⟩
        have hgo2 : ¬ (N1 : Int) ≤ (ll : Int) := by omega
        rw [hM]
        clear hle hres hO HI hgo hM hm2
        go_wp2_with fail
        refine bodyPost_ret (results_cell1 (v := .agg #[.slice none 0 0, .slice none 0 0, .int .i64 17]) rfl rfl ?_) rfl ?_
        · go_simp
        rw [HS1.out.1.1, HS1.out.1.2]
        exact ⟨_, _, rfl, Rs.nil _, RRs.nil _, HS1.out.2⟩
end Go.Proofs.YtdmljilcbndmfaaDoor

/- THE WALKS over the small functions of the laws of rebuild. -/
namespace Rb
/-- The laws' test of a code. -/
def fewC (d gl : Int) (gs : List (List Int)) (most : Int) : Bool := Cd.few gs 30 && (decide (Cd.pieces d gs gl ≤ most) || decide (16 < Cd.pieces d gs gl))
end Rb
namespace Go.Proofs.YtdmljilcbndmfaaDoor
open Go.RowKit Go.Shelf
set_option maxRecDepth 100000 in
theorem few8_any (d gl most : Int) (gs : List (List Int)) (G : Value) (w : World) (hG : Rs (Rs RI) w G gs) (hn : gs.length ≤ 4611686018427387904) :
    Calls Tryd.prog 10 #[.agg #[.int .i64 d, G, .int .i64 gl], .int .i64 most] w fun e w' => e = .returned (.bool (Rb.fewC d gl gs most)) ∧ Ext w w' := by
  obtain ⟨A, c, rfl, hl⟩ := hG.form
  have hx0 := (Ext.refl w).alloc (.cells #[.int .i64 d, .slice A gs.length c, .int .i64 gl] 24)
  have HX := Lib.hid (And.intro hx0 (And.intro (Rs.ext (Rs.ext RI.ext) _ _ _ _ hx0 hG) hn))
  clear hG hx0 hn
  go_enter Tryd.func10, Tryd.ntmps10
  go_wp2_with fail
  refine (rPieces_any d gl gs _ _ HX.out.2.1 HX.out.2.2).mono ?_
  rintro e w1 ⟨rfl, hx1⟩
  have b0 := hx1.cell (show (w.alloc (.cells #[.int .i64 d, .slice A gs.length c, .int .i64 gl] 24)).cell? ⟨w.heap.size, 0, none⟩ = some (.int .i64 d) by go_simp)
  have b1 := hx1.cell (show (w.alloc (.cells #[.int .i64 d, .slice A gs.length c, .int .i64 gl] 24)).cell? ⟨w.heap.size, 1, none⟩ = some (.slice A gs.length c) by go_simp)
  have b2 := hx1.cell (show (w.alloc (.cells #[.int .i64 d, .slice A gs.length c, .int .i64 gl] 24)).cell? ⟨w.heap.size, 2, none⟩ = some (.int .i64 gl) by go_simp)
  have HX1 := Lib.hid (And.intro (HX.out.1.trans hx1) (Rs.ext (Rs.ext RI.ext) _ _ _ _ hx1 HX.out.2.1))
  clear hx1
  go_wp2_with fail
  refine (rFew_any d gl gs 30 _ _ HX1.out.2 (by decide)).mono ?_
  rintro e w2 ⟨rfl, hx2⟩
  have HX2 := Lib.hid (HX1.out.1.trans hx2)
  clear hx2 b0 b1 b2
  obtain ⟨n, hn⟩ : ∃ n, Cd.pieces d gs gl = n := ⟨_, rfl⟩
  rw [hn]
  cases hf : Cd.few gs 30 with
  | false =>
    have HD := Lib.hid (show Rb.fewC d gl gs most = false by unfold Rb.fewC; rw [hf]; rfl)
    clear hf hn
    go_wp2_with fail
    go_ret
    exact ⟨ret_bool HD.out.symm, HX2.out⟩
  | true =>
    by_cases h1 : n ≤ most
    · have HD := Lib.hid (show Rb.fewC d gl gs most = true by unfold Rb.fewC; rw [hf, hn, decide_eq_true h1]; rfl)
      clear hf hn
      go_wp2_with fail
      go_ret
      exact ⟨ret_bool HD.out.symm, HX2.out⟩
    · by_cases h2 : 16 < n
      · have HD := Lib.hid (show Rb.fewC d gl gs most = true by unfold Rb.fewC; rw [hf, hn, decide_eq_true h2]; simp)
        clear hf hn
        go_wp2_with fail
        go_ret
        exact ⟨ret_bool HD.out.symm, HX2.out⟩
      · have HD := Lib.hid (show Rb.fewC d gl gs most = false by unfold Rb.fewC; rw [hf, hn, decide_eq_false h1, decide_eq_false h2]; rfl)
        clear hf hn
        go_wp2_with fail
        go_ret
        exact ⟨ret_bool (by rw [HD.out, decide_eq_false (by omega), decide_eq_false (by omega)]; rfl), HX2.out⟩
end Go.Proofs.YtdmljilcbndmfaaDoor

/- THE DRAWN REGION 13 of sanity of the laws of rebuild. -/
namespace Go.Proofs.YtdmljilcbndmfaaDoor
open Go.RowKit Go.Shelf
theorem sSame_self (r : Rb.Rec) (v u : Value) (w : World) (ha : RRec w v r) (hb : RRec w u r) : Calls Tryd.prog 18 #[v, u] w fun e w' => e = .returned (.bool true) ∧ Ext w w' := by
  have h := sSame_any r r v u w ha hb
  rw [decide_eq_true rfl] at h
  exact h
theorem sSameAll_self (r : List Rb.Rec) (v u : Value) (w : World) (ha : RRs w v r) (hb : RRs w u r) : Calls Tryd.prog 19 #[v, u] w fun e w' => e = .returned (.bool true) ∧ Ext w w' := by
  have h := sSameAll_any r r v u w ha hb
  rw [decide_eq_true rfl] at h
  exact h
theorem run_build2_int (w : World) (a : Act) (o : Oper) (x y : Int) (ho : o.op = .buildSlice 27 2 #[(0, .const (.int .i64 x)), (1, .const (.int .i64 y))]) : (execOp a.eval o).run Tryd.prog w = .ok (.value (.slice (some ⟨w.heap.size, 0, none⟩) 2 2)) (w.alloc (.cells #[.int .i64 x, .int .i64 y] 3)) := by
  unfold execOp
  simp only [ho]
  go_simp
theorem run_build2_u8 (w : World) (a : Act) (o : Oper) (x y : Int) (ho : o.op = .buildSlice 28 2 #[(0, .const (.int .u8 x)), (1, .const (.int .u8 y))]) : (execOp a.eval o).run Tryd.prog w = .ok (.value (.slice (some ⟨w.heap.size, 0, none⟩) 2 2)) (w.alloc (.cells #[.int .u8 x, .int .u8 y] 5)) := by
  unfold execOp
  simp only [ho]
  go_simp
noncomputable def san_near_code : Code := ((Tryd.f11.body.bind (regionOf 13)).getD .skip)
def san_near_dsts : List (Option Nat) := [some 121, some 122, some 123, some 124, some 125, some 126, some 127, some 128, some 129, some 130, some 131, some 132, some 133, some 134, some 135, some 136, some 137, some 138, some 139, some 140, some 141, some 142, some 143, some 144, some 23]
theorem san_near_apart : apartD san_near_dsts = true := by decide +kernel
set_option maxRecDepth 1000000 in
set_option maxHeartbeats 16000000 in
theorem san_near (Qa Qb Ql XF cL : Nat) (LA FAa CAa FAb CAb FAl CAl FAz CAz : Option Addr) (fca cca fcb ccb fcl ccl fcz ccz : Nat) (wr : World) (hCa : Cells wr Qa [.int .i64 0, .slice FAa 2 fca, .slice CAa 2 cca]) (hCb : Cells wr Qb [.int .i64 0, .slice FAb 4 fcb, .slice CAb 4 ccb]) (hCl : Cells wr Ql [.int .i64 5, .slice FAl 2 fcl, .slice CAl 2 ccl]) (hC0 : Cells wr XF [.int .i64 0, .slice FAz 4 fcz, .slice CAz 4 ccz]) (hRa : RRec wr (.agg #[.int .i64 0, .slice FAa 2 fca, .slice CAa 2 cca]) ⟨0, [1, 4], [1, 1]⟩) (hRb : RRec wr (.agg #[.int .i64 0, .slice FAb 4 fcb, .slice CAb 4 ccb]) ⟨0, [1, 2, 3, 6], [2, 4, 8, 1]⟩) (hRl : RRec wr (.agg #[.int .i64 5, .slice FAl 2 fcl, .slice CAl 2 ccl]) ⟨5, [2, 3], [1, 1]⟩) (hR0 : RRec wr (.agg #[.int .i64 0, .slice FAz 4 fcz, .slice CAz 4 ccz]) ⟨0, [1, 2, 3, 6], [2, 4, 8, 1]⟩) (hAL : RRs wr (.slice LA 3 cL) [⟨0, [1, 2, 3, 6], [2, 4, 8, 1]⟩, ⟨0, [1, 2, 5, 6], [2, 12, 8, 1]⟩, ⟨0, [1, 3, 5, 6], [2, 12, 4, 1]⟩]) (hFAR : RRs wr (.slice (some ⟨XF, 0, none⟩) 3 3) [⟨0, [1, 2, 3, 6], [2, 4, 8, 1]⟩, ⟨0, [1, 2, 5, 6], [2, 12, 8, 1]⟩, ⟨0, [1, 3, 5, 6], [2, 12, 4, 1]⟩]) (c0 c1 c3 c5 c6 c7 c9 c11 c12 c13 c14 c15 c16 c17 c18 c19 c20 c21 c23 c24 c25 c26 c27 c28 c29 c30 c31 c32 c33 c34 c35 c36 c37 c38 c39 c40 c41 c42 c43 c44 c45 c46 c47 c48 c49 c50 c51 c52 c53 c54 c55 c56 c57 c58 c59 c60 c61 c62 c63 c64 c65 c66 c67 c68 c69 c70 c71 c72 c73 c74 c75 c76 c77 c78 c79 c80 c81 c82 c83 c84 c85 c86 c87 c88 c89 c90 c91 c92 c93 c94 c95 c96 c97 c98 c99 c100 c101 c102 c103 c104 c105 c106 c107 c108 c109 c110 c111 c112 c113 c114 c115 c116 c117 c118 c119 c120 c121 c122 c123 c124 c125 c126 c127 c128 c129 c130 c131 c132 c133 c134 c135 c136 c137 c138 c139 c140 c141 c142 c143 c144 c145 c146 c147 c148 c149 c150 c151 c152 c153 c154 c155 c156 c157 c158 c159 c160 c161 c162 c163 c164 c165 c166 c167 c168 c169 c170 c171 c172 c173 : Value) (df : List Deferred) (K : Act → World → Prop)
    (hK : ∀  (u121 u122 u123 u124 u125 u126 u127 u128 u129 u130 u131 u132 u133 u134 u135 u136 u137 u138 u139 u140 u141 u142 u143 u144 : Value) (wx : World), Ext wr wx → K ⟨#[c0, c1, .pointer (some ⟨Qa, 0, none⟩), c3, .slice LA 3 cL, c5, c6, c7, .pointer (some ⟨Qb, 0, none⟩), c9, .pointer (some ⟨Ql, 0, none⟩), c11, c12, c13, c14, c15, c16, c17, c18, c19, c20, c21, .slice (some ⟨XF, 0, none⟩) 3 3, .bool true, c24, c25, c26, c27, c28, c29, c30, c31, c32, c33, c34, c35, c36, c37, c38, c39, c40, c41, c42, c43, c44, c45, c46, c47, c48, c49, c50, c51, c52, c53, c54, c55, c56, c57, c58, c59, c60, c61, c62, c63, c64, c65, c66, c67, c68, c69, c70, c71, c72, c73, c74, c75, c76, c77, c78, c79, c80, c81, c82, c83, c84, c85, c86, c87, c88, c89, c90, c91, c92, c93, c94, c95, c96, c97, c98, c99, c100, c101, c102, c103, c104, c105, c106, c107, c108, c109, c110, c111, c112, c113, c114, c115, c116, c117, c118, c119, c120, u121, u122, u123, u124, u125, u126, u127, u128, u129, u130, u131, u132, u133, u134, u135, u136, u137, u138, u139, u140, u141, u142, u143, u144, c145, c146, c147, c148, c149, c150, c151, c152, c153, c154, c155, c156, c157, c158, c159, c160, c161, c162, c163, c164, c165, c166, c167, c168, c169, c170, c171, c172, c173], df⟩ wx) :
    Code.wp Tryd.prog san_near_code (AtEnd K) ⟨#[c0, c1, .pointer (some ⟨Qa, 0, none⟩), c3, .slice LA 3 cL, c5, c6, c7, .pointer (some ⟨Qb, 0, none⟩), c9, .pointer (some ⟨Ql, 0, none⟩), c11, c12, c13, c14, c15, c16, c17, c18, c19, c20, c21, .slice (some ⟨XF, 0, none⟩) 3 3, c23, c24, c25, c26, c27, c28, c29, c30, c31, c32, c33, c34, c35, c36, c37, c38, c39, c40, c41, c42, c43, c44, c45, c46, c47, c48, c49, c50, c51, c52, c53, c54, c55, c56, c57, c58, c59, c60, c61, c62, c63, c64, c65, c66, c67, c68, c69, c70, c71, c72, c73, c74, c75, c76, c77, c78, c79, c80, c81, c82, c83, c84, c85, c86, c87, c88, c89, c90, c91, c92, c93, c94, c95, c96, c97, c98, c99, c100, c101, c102, c103, c104, c105, c106, c107, c108, c109, c110, c111, c112, c113, c114, c115, c116, c117, c118, c119, c120, c121, c122, c123, c124, c125, c126, c127, c128, c129, c130, c131, c132, c133, c134, c135, c136, c137, c138, c139, c140, c141, c142, c143, c144, c145, c146, c147, c148, c149, c150, c151, c152, c153, c154, c155, c156, c157, c158, c159, c160, c161, c162, c163, c164, c165, c166, c167, c168, c169, c170, c171, c172, c173], df⟩ wr := by
  conv => arg 2; whnf
  refine region_inv (by kernel_rfl) [[], [], [], [1, 2], [0, 3, 3], [4, 4], [5], [5], [6, 7, 5, 5], [5, 8], [9, 8], [10], [10], [12, 10], [13, 10], [11, 14, 10, 10], [10, 15], [16, 15], [17], [17], [17], [19, 20, 17, 17], [18, 21, 21, 17], [17, 22], [23, 22, 0, 1, 2, 3, 4, 5, 6, 7, 8, 9, 10, 11, 12, 13, 14, 15, 16, 17, 18, 19, 20, 21, 22, 23]] (by kernel_rfl) [0, 1, 2, 3, 4, 5, 6, 7, 8, 9, 10, 11, 12, 13, 14, 15, 16, 17, 18, 19, 20, 21, 22, 23, 24] (by decide +kernel) (by decide +kernel) (by decide +kernel) (fun L a wc => ∃ (ga : Nat) (gb : Nat) (gd : Nat) (ge : Nat), Inv san_near_dsts [.agg #[.int .i64 0, .slice FAa 2 fca, .slice CAa 2 cca], .slice (some ⟨ga, 0, none⟩) 2 2, .slice (some ⟨gb, 0, none⟩) 2 2, .agg #[.int .i64 0, .slice (some ⟨ga, 0, none⟩) 2 2, .slice (some ⟨gb, 0, none⟩) 2 2], .bool true, .bool true, .slice LA 3 cL, .slice (some ⟨XF, 0, none⟩) 3 3, .bool true, .bool true, .bool true, .agg #[.int .i64 0, .slice FAb 4 fcb, .slice CAb 4 ccb], .slice (some ⟨XF, 0, none⟩) 3 3, .pointer (some ⟨XF, 0, none⟩), .agg #[.int .i64 0, .slice FAz 4 fcz, .slice CAz 4 ccz], .bool true, .bool true, .bool true, .agg #[.int .i64 5, .slice FAl 2 fcl, .slice CAl 2 ccl], .slice (some ⟨gd, 0, none⟩) 2 2, .slice (some ⟨ge, 0, none⟩) 2 2, .agg #[.int .i64 5, .slice (some ⟨gd, 0, none⟩) 2 2, .slice (some ⟨ge, 0, none⟩) 2 2], .bool true, .bool true, .bool true] ⟨#[c0, c1, .pointer (some ⟨Qa, 0, none⟩), c3, .slice LA 3 cL, c5, c6, c7, .pointer (some ⟨Qb, 0, none⟩), c9, .pointer (some ⟨Ql, 0, none⟩), c11, c12, c13, c14, c15, c16, c17, c18, c19, c20, c21, .slice (some ⟨XF, 0, none⟩) 3 3, c23, c24, c25, c26, c27, c28, c29, c30, c31, c32, c33, c34, c35, c36, c37, c38, c39, c40, c41, c42, c43, c44, c45, c46, c47, c48, c49, c50, c51, c52, c53, c54, c55, c56, c57, c58, c59, c60, c61, c62, c63, c64, c65, c66, c67, c68, c69, c70, c71, c72, c73, c74, c75, c76, c77, c78, c79, c80, c81, c82, c83, c84, c85, c86, c87, c88, c89, c90, c91, c92, c93, c94, c95, c96, c97, c98, c99, c100, c101, c102, c103, c104, c105, c106, c107, c108, c109, c110, c111, c112, c113, c114, c115, c116, c117, c118, c119, c120, c121, c122, c123, c124, c125, c126, c127, c128, c129, c130, c131, c132, c133, c134, c135, c136, c137, c138, c139, c140, c141, c142, c143, c144, c145, c146, c147, c148, c149, c150, c151, c152, c153, c154, c155, c156, c157, c158, c159, c160, c161, c162, c163, c164, c165, c166, c167, c168, c169, c170, c171, c172, c173], df⟩ L a ∧ Hid (Ext wr wc ∧ (L 1 = true → Cells wc ga [.int .i64 1, .int .i64 4]) ∧ (L 2 = true → Cells wc gb [.int .u8 1, .int .u8 1]) ∧ (L 19 = true → Cells wc gd [.int .i64 2, .int .i64 3]) ∧ (L 20 = true → Cells wc ge [.int .u8 1, .int .u8 1]))) ⟨0, 0, 0, 0, Inv.start, Lib.hid ⟨(Ext.refl wr).drew, fun h => (by cases h), fun h => (by cases h), fun h => (by cases h), fun h => by cases h⟩⟩ ?_ ?_
  · refine ⟨?_, ?_, ?_, ?_, ?_, ?_, ?_, ?_, ?_, ?_, ?_, ?_, ?_, ?_, ?_, ?_, ?_, ?_, ?_, ?_, ?_, ?_, ?_, ?_, ?_, trivial⟩
    ·
      rintro L a wc ⟨ga, gb, gd, ge, hv, HO⟩ hL hc hd
      have e0 : wc.cell? ⟨Qa, 0, none⟩ = some (.int .i64 0) := HO.out.1.cell (hCa 0 _ rfl)
      have e1 : wc.cell? ⟨Qa, 1, none⟩ = some (.slice FAa 2 fca) := HO.out.1.cell (hCa 1 _ rfl)
      have e2 : wc.cell? ⟨Qa, 2, none⟩ = some (.slice CAa 2 cca) := HO.out.1.cell (hCa 2 _ rfl)
      exact wpOp_val rfl rfl (ex_load rfl ((hv.fixed 2 (by decide)).trans rfl) (by go_simp)) ⟨ga, gb, gd, ge, hv.put san_near_apart 0 rfl (lb rfl) (lb rfl) rfl, HO⟩
    ·
      rintro L a wc ⟨ga, gb, gd, ge, hv, HO⟩ hL hc hd
      have n3 : L 3 = false := Bool.eq_false_iff.2 fun h => Bool.false_ne_true (hL.symm.trans (hc 3 h 1 (by decide)))
      have hv := hv.reset 3 n3 (.agg #[.int .i64 0, .slice (some ⟨wc.heap.size, 0, none⟩) 2 2, .slice (some ⟨gb, 0, none⟩) 2 2])
      have hx : Ext wc (wc.alloc (.cells #[.int .i64 1, .int .i64 4] 3)) := (Ext.refl wc).alloc _
      exact wpOp_val rfl rfl (run_build2_int wc a _ _ _ rfl) ⟨wc.heap.size, gb, gd, ge, hv.put san_near_apart 1 rfl (lb rfl) (lb rfl) rfl, Lib.hid ⟨HO.out.1.trans hx, fun _ => cells_new wc #[.int .i64 1, .int .i64 4] 3, fun h => (HO.out.2.2.1 h).ext hx, fun h => (HO.out.2.2.2.1 h).ext hx, fun h => (HO.out.2.2.2.2 h).ext hx⟩⟩
    ·
      rintro L a wc ⟨ga, gb, gd, ge, hv, HO⟩ hL hc hd
      have n3 : L 3 = false := Bool.eq_false_iff.2 fun h => Bool.false_ne_true (hL.symm.trans (hc 3 h 2 (by decide)))
      have hv := hv.reset 3 n3 (.agg #[.int .i64 0, .slice (some ⟨ga, 0, none⟩) 2 2, .slice (some ⟨wc.heap.size, 0, none⟩) 2 2])
      have hx : Ext wc (wc.alloc (.cells #[.int .u8 1, .int .u8 1] 5)) := (Ext.refl wc).alloc _
      exact wpOp_val rfl rfl (run_build2_u8 wc a _ _ _ rfl) ⟨ga, wc.heap.size, gd, ge, hv.put san_near_apart 2 rfl (lb rfl) (lb rfl) rfl, Lib.hid ⟨HO.out.1.trans hx, fun h => (HO.out.2.1 h).ext hx, fun _ => cells_new wc #[.int .u8 1, .int .u8 1] 5, fun h => (HO.out.2.2.2.1 h).ext hx, fun h => (HO.out.2.2.2.2 h).ext hx⟩⟩
    ·
      rintro L a wc ⟨ga, gb, gd, ge, hv, HO⟩ hL hc hd
      refine wpOp_call (R := fun v w1 => v = .agg #[.int .i64 0, .slice (some ⟨ga, 0, none⟩) 2 2, .slice (some ⟨gb, 0, none⟩) 2 2] ∧ Ext wc w1) rfl rfl (ex_call rfl rfl (by simp only [List.map_toArray, List.map_cons, List.map_nil, (hv.get 1 rfl rfl (hd 1 (by decide))), (hv.get 2 rfl rfl (hd 2 (by decide)))]; rfl) (enters_of Tryd.func37 (by kernel_rfl) rfl _ _)) ((recipe8_any 0 _ _ 2 2 2 2 _ _ wc rfl rfl).mono (fun e w' h => ⟨_, h.1, rfl, h.2⟩)) ?_
      rintro v w' ⟨rfl, hx⟩
      exact ⟨ga, gb, gd, ge, hv.put san_near_apart 3 rfl (lb rfl) (lb rfl) rfl, Lib.hid ⟨HO.out.1.trans hx, fun h => (HO.out.2.1 h).ext hx, fun h => (HO.out.2.2.1 h).ext hx, fun h => (HO.out.2.2.2.1 h).ext hx, fun h => (HO.out.2.2.2.2 h).ext hx⟩⟩
    ·
      rintro L a wc ⟨ga, gb, gd, ge, hv, HO⟩ hL hc hd
      refine wpOp_call (R := fun v w1 => v = .bool true ∧ Ext wc w1) rfl rfl (ex_call rfl rfl (by simp only [List.map_toArray, List.map_cons, List.map_nil, (hv.get 0 rfl rfl (hd 0 (by decide))), (hv.get 3 rfl rfl (hd 3 (by decide)))]; rfl) (enters_of Tryd.func18 (by kernel_rfl) rfl _ _)) ((sSame_self ⟨0, [1, 4], [1, 1]⟩ _ _ wc (RRec.ext _ _ _ _ HO.out.1 hRa) (⟨_, _, rfl, rs_lit (l := [1, 4]) (HO.out.2.1 (hc 3 (hd 3 (by decide)) 1 (by decide))) rfl (by decide), rb_lit (l := [1, 1]) (HO.out.2.2.1 (hc 3 (hd 3 (by decide)) 2 (by decide))) (by decide)⟩ : RRec wc (.agg #[.int .i64 0, .slice (some ⟨ga, 0, none⟩) 2 2, .slice (some ⟨gb, 0, none⟩) 2 2]) ⟨0, [1, 4], [1, 1]⟩)).mono (fun e w' h => ⟨_, h.1, rfl, h.2⟩)) ?_
      rintro v w' ⟨rfl, hx⟩
      exact ⟨ga, gb, gd, ge, hv.put san_near_apart 4 rfl (lb rfl) (lb rfl) rfl, Lib.hid ⟨HO.out.1.trans hx, fun h => (HO.out.2.1 h).ext hx, fun h => (HO.out.2.2.1 h).ext hx, fun h => (HO.out.2.2.2.1 h).ext hx, fun h => (HO.out.2.2.2.2 h).ext hx⟩⟩
    ·
      rintro L a wc ⟨ga, gb, gd, ge, hv, HO⟩ hL hc hd
      exact wpOp_val rfl rfl (ex_move rfl (hv.get 4 rfl rfl (hd 4 (by decide)))) ⟨ga, gb, gd, ge, hv.put san_near_apart 5 rfl (lb rfl) (lb rfl) rfl, HO⟩
    ·
      rintro L a wc ⟨ga, gb, gd, ge, hv, HO⟩ hL hc hd
      exact wpOp_val rfl ((wanted_at rfl rfl (hv.get 5 rfl rfl (hd 5 (by decide)))).trans rfl) (ex_move rfl ((hv.fixed 4 (by decide)).trans rfl)) ⟨ga, gb, gd, ge, hv.put san_near_apart 6 rfl (lb rfl) (lb rfl) rfl, HO⟩
    ·
      rintro L a wc ⟨ga, gb, gd, ge, hv, HO⟩ hL hc hd
      exact wpOp_val rfl ((wanted_at rfl rfl (hv.get 5 rfl rfl (hd 5 (by decide)))).trans rfl) (ex_move rfl ((hv.fixed 22 (by decide)).trans rfl)) ⟨ga, gb, gd, ge, hv.put san_near_apart 7 rfl (lb rfl) (lb rfl) rfl, HO⟩
    ·
      rintro L a wc ⟨ga, gb, gd, ge, hv, HO⟩ hL hc hd
      refine wpOp_callw (R := fun v w1 => v = .bool true ∧ Ext wc w1) rfl ((wanted_at rfl rfl (hv.get 5 rfl rfl (hd 5 (by decide)))).trans rfl) (ex_call rfl rfl (by simp only [List.map_toArray, List.map_cons, List.map_nil, (hv.get 6 rfl rfl (hd 6 (by decide))), (hv.get 7 rfl rfl (hd 7 (by decide)))]; rfl) (enters_of Tryd.func19 (by kernel_rfl) rfl _ _)) ((sSameAll_self [⟨0, [1, 2, 3, 6], [2, 4, 8, 1]⟩, ⟨0, [1, 2, 5, 6], [2, 12, 8, 1]⟩, ⟨0, [1, 3, 5, 6], [2, 12, 4, 1]⟩] _ _ wc (RRs.ext _ _ _ _ HO.out.1 hAL) (RRs.ext _ _ _ _ HO.out.1 hFAR)).mono (fun e w' h => ⟨_, h.1, rfl, h.2⟩)) ?_
      rintro v w' ⟨rfl, hx⟩
      exact ⟨ga, gb, gd, ge, hv.put san_near_apart 8 rfl (lb rfl) (lb rfl) rfl, Lib.hid ⟨HO.out.1.trans hx, fun h => (HO.out.2.1 h).ext hx, fun h => (HO.out.2.2.1 h).ext hx, fun h => (HO.out.2.2.2.1 h).ext hx, fun h => (HO.out.2.2.2.2 h).ext hx⟩⟩
    ·
      rintro L a wc ⟨ga, gb, gd, ge, hv, HO⟩ hL hc hd
      exact wpOp_val rfl rfl (ex_pick rfl (hv.get 5 rfl rfl (hd 5 (by decide))) (hv.get 8 rfl rfl (hd 8 (by decide)))) ⟨ga, gb, gd, ge, hv.put san_near_apart 9 rfl (lb rfl) (lb rfl) rfl, HO⟩
    ·
      rintro L a wc ⟨ga, gb, gd, ge, hv, HO⟩ hL hc hd
      exact wpOp_val rfl rfl (ex_move rfl (hv.get 9 rfl rfl (hd 9 (by decide)))) ⟨ga, gb, gd, ge, hv.put san_near_apart 10 rfl (lb rfl) (lb rfl) rfl, HO⟩
    ·
      rintro L a wc ⟨ga, gb, gd, ge, hv, HO⟩ hL hc hd
      have e0 : wc.cell? ⟨Qb, 0, none⟩ = some (.int .i64 0) := HO.out.1.cell (hCb 0 _ rfl)
      have e1 : wc.cell? ⟨Qb, 1, none⟩ = some (.slice FAb 4 fcb) := HO.out.1.cell (hCb 1 _ rfl)
      have e2 : wc.cell? ⟨Qb, 2, none⟩ = some (.slice CAb 4 ccb) := HO.out.1.cell (hCb 2 _ rfl)
      exact wpOp_val rfl ((wanted_at rfl rfl (hv.get 10 rfl rfl (hd 10 (by decide)))).trans rfl) (ex_load rfl ((hv.fixed 8 (by decide)).trans rfl) (by go_simp)) ⟨ga, gb, gd, ge, hv.put san_near_apart 11 rfl (lb rfl) (lb rfl) rfl, HO⟩
    ·
      rintro L a wc ⟨ga, gb, gd, ge, hv, HO⟩ hL hc hd
      exact wpOp_val rfl ((wanted_at rfl rfl (hv.get 10 rfl rfl (hd 10 (by decide)))).trans rfl) (ex_move rfl ((hv.fixed 22 (by decide)).trans rfl)) ⟨ga, gb, gd, ge, hv.put san_near_apart 12 rfl (lb rfl) (lb rfl) rfl, HO⟩
    ·
      rintro L a wc ⟨ga, gb, gd, ge, hv, HO⟩ hL hc hd
      have u1 : (0 : Int) ≤ (0 : Int) := by omega
      have u2 : (0 : Int) < (3 : Int) := by omega
      exact wpOp_val rfl ((wanted_at rfl rfl (hv.get 10 rfl rfl (hd 10 (by decide)))).trans rfl) (ex_index rfl (hv.get 12 rfl rfl (hd 12 (by decide))) rfl (by go_simp)) ⟨ga, gb, gd, ge, hv.put san_near_apart 13 rfl (lb rfl) (lb rfl) rfl, HO⟩
    ·
      rintro L a wc ⟨ga, gb, gd, ge, hv, HO⟩ hL hc hd
      have e0 : wc.cell? ⟨XF, 0, none⟩ = some (.int .i64 0) := HO.out.1.cell (hC0 0 _ rfl)
      have e1 : wc.cell? ⟨XF, 1, none⟩ = some (.slice FAz 4 fcz) := HO.out.1.cell (hC0 1 _ rfl)
      have e2 : wc.cell? ⟨XF, 2, none⟩ = some (.slice CAz 4 ccz) := HO.out.1.cell (hC0 2 _ rfl)
      exact wpOp_val rfl ((wanted_at rfl rfl (hv.get 10 rfl rfl (hd 10 (by decide)))).trans rfl) (ex_load rfl (hv.get 13 rfl rfl (hd 13 (by decide))) (by go_simp)) ⟨ga, gb, gd, ge, hv.put san_near_apart 14 rfl (lb rfl) (lb rfl) rfl, HO⟩
    ·
      rintro L a wc ⟨ga, gb, gd, ge, hv, HO⟩ hL hc hd
      refine wpOp_callw (R := fun v w1 => v = .bool true ∧ Ext wc w1) rfl ((wanted_at rfl rfl (hv.get 10 rfl rfl (hd 10 (by decide)))).trans rfl) (ex_call rfl rfl (by simp only [List.map_toArray, List.map_cons, List.map_nil, (hv.get 11 rfl rfl (hd 11 (by decide))), (hv.get 14 rfl rfl (hd 14 (by decide)))]; rfl) (enters_of Tryd.func18 (by kernel_rfl) rfl _ _)) ((sSame_self ⟨0, [1, 2, 3, 6], [2, 4, 8, 1]⟩ _ _ wc (RRec.ext _ _ _ _ HO.out.1 hRb) (RRec.ext _ _ _ _ HO.out.1 hR0)).mono (fun e w' h => ⟨_, h.1, rfl, h.2⟩)) ?_
      rintro v w' ⟨rfl, hx⟩
      exact ⟨ga, gb, gd, ge, hv.put san_near_apart 15 rfl (lb rfl) (lb rfl) rfl, Lib.hid ⟨HO.out.1.trans hx, fun h => (HO.out.2.1 h).ext hx, fun h => (HO.out.2.2.1 h).ext hx, fun h => (HO.out.2.2.2.1 h).ext hx, fun h => (HO.out.2.2.2.2 h).ext hx⟩⟩
    ·
      rintro L a wc ⟨ga, gb, gd, ge, hv, HO⟩ hL hc hd
      exact wpOp_val rfl rfl (ex_pick rfl (hv.get 10 rfl rfl (hd 10 (by decide))) (hv.get 15 rfl rfl (hd 15 (by decide)))) ⟨ga, gb, gd, ge, hv.put san_near_apart 16 rfl (lb rfl) (lb rfl) rfl, HO⟩
    ·
      rintro L a wc ⟨ga, gb, gd, ge, hv, HO⟩ hL hc hd
      exact wpOp_val rfl rfl (ex_move rfl (hv.get 16 rfl rfl (hd 16 (by decide)))) ⟨ga, gb, gd, ge, hv.put san_near_apart 17 rfl (lb rfl) (lb rfl) rfl, HO⟩
    ·
      rintro L a wc ⟨ga, gb, gd, ge, hv, HO⟩ hL hc hd
      have e0 : wc.cell? ⟨Ql, 0, none⟩ = some (.int .i64 5) := HO.out.1.cell (hCl 0 _ rfl)
      have e1 : wc.cell? ⟨Ql, 1, none⟩ = some (.slice FAl 2 fcl) := HO.out.1.cell (hCl 1 _ rfl)
      have e2 : wc.cell? ⟨Ql, 2, none⟩ = some (.slice CAl 2 ccl) := HO.out.1.cell (hCl 2 _ rfl)
      exact wpOp_val rfl ((wanted_at rfl rfl (hv.get 17 rfl rfl (hd 17 (by decide)))).trans rfl) (ex_load rfl ((hv.fixed 10 (by decide)).trans rfl) (by go_simp)) ⟨ga, gb, gd, ge, hv.put san_near_apart 18 rfl (lb rfl) (lb rfl) rfl, HO⟩
    ·
      rintro L a wc ⟨ga, gb, gd, ge, hv, HO⟩ hL hc hd
      have n21 : L 21 = false := Bool.eq_false_iff.2 fun h => Bool.false_ne_true (hL.symm.trans (hc 21 h 19 (by decide)))
      have hv := hv.reset 21 n21 (.agg #[.int .i64 5, .slice (some ⟨wc.heap.size, 0, none⟩) 2 2, .slice (some ⟨ge, 0, none⟩) 2 2])
      have hx : Ext wc (wc.alloc (.cells #[.int .i64 2, .int .i64 3] 3)) := (Ext.refl wc).alloc _
      exact wpOp_val rfl ((wanted_at rfl rfl (hv.get 17 rfl rfl (hd 17 (by decide)))).trans rfl) (run_build2_int wc a _ _ _ rfl) ⟨ga, gb, wc.heap.size, ge, hv.put san_near_apart 19 rfl (lb rfl) (lb rfl) rfl, Lib.hid ⟨HO.out.1.trans hx, fun h => (HO.out.2.1 h).ext hx, fun h => (HO.out.2.2.1 h).ext hx, fun _ => cells_new wc #[.int .i64 2, .int .i64 3] 3, fun h => (HO.out.2.2.2.2 h).ext hx⟩⟩
    ·
      rintro L a wc ⟨ga, gb, gd, ge, hv, HO⟩ hL hc hd
      have n21 : L 21 = false := Bool.eq_false_iff.2 fun h => Bool.false_ne_true (hL.symm.trans (hc 21 h 20 (by decide)))
      have hv := hv.reset 21 n21 (.agg #[.int .i64 5, .slice (some ⟨gd, 0, none⟩) 2 2, .slice (some ⟨wc.heap.size, 0, none⟩) 2 2])
      have hx : Ext wc (wc.alloc (.cells #[.int .u8 1, .int .u8 1] 5)) := (Ext.refl wc).alloc _
      exact wpOp_val rfl ((wanted_at rfl rfl (hv.get 17 rfl rfl (hd 17 (by decide)))).trans rfl) (run_build2_u8 wc a _ _ _ rfl) ⟨ga, gb, gd, wc.heap.size, hv.put san_near_apart 20 rfl (lb rfl) (lb rfl) rfl, Lib.hid ⟨HO.out.1.trans hx, fun h => (HO.out.2.1 h).ext hx, fun h => (HO.out.2.2.1 h).ext hx, fun h => (HO.out.2.2.2.1 h).ext hx, fun _ => cells_new wc #[.int .u8 1, .int .u8 1] 5⟩⟩
    ·
      rintro L a wc ⟨ga, gb, gd, ge, hv, HO⟩ hL hc hd
      refine wpOp_callw (R := fun v w1 => v = .agg #[.int .i64 5, .slice (some ⟨gd, 0, none⟩) 2 2, .slice (some ⟨ge, 0, none⟩) 2 2] ∧ Ext wc w1) rfl ((wanted_at rfl rfl (hv.get 17 rfl rfl (hd 17 (by decide)))).trans rfl) (ex_call rfl rfl (by simp only [List.map_toArray, List.map_cons, List.map_nil, (hv.get 19 rfl rfl (hd 19 (by decide))), (hv.get 20 rfl rfl (hd 20 (by decide)))]; rfl) (enters_of Tryd.func37 (by kernel_rfl) rfl _ _)) ((recipe8_any 5 _ _ 2 2 2 2 _ _ wc rfl rfl).mono (fun e w' h => ⟨_, h.1, rfl, h.2⟩)) ?_
      rintro v w' ⟨rfl, hx⟩
      exact ⟨ga, gb, gd, ge, hv.put san_near_apart 21 rfl (lb rfl) (lb rfl) rfl, Lib.hid ⟨HO.out.1.trans hx, fun h => (HO.out.2.1 h).ext hx, fun h => (HO.out.2.2.1 h).ext hx, fun h => (HO.out.2.2.2.1 h).ext hx, fun h => (HO.out.2.2.2.2 h).ext hx⟩⟩
    ·
      rintro L a wc ⟨ga, gb, gd, ge, hv, HO⟩ hL hc hd
      refine wpOp_callw (R := fun v w1 => v = .bool true ∧ Ext wc w1) rfl ((wanted_at rfl rfl (hv.get 17 rfl rfl (hd 17 (by decide)))).trans rfl) (ex_call rfl rfl (by simp only [List.map_toArray, List.map_cons, List.map_nil, (hv.get 18 rfl rfl (hd 18 (by decide))), (hv.get 21 rfl rfl (hd 21 (by decide)))]; rfl) (enters_of Tryd.func18 (by kernel_rfl) rfl _ _)) ((sSame_self ⟨5, [2, 3], [1, 1]⟩ _ _ wc (RRec.ext _ _ _ _ HO.out.1 hRl) (⟨_, _, rfl, rs_lit (l := [2, 3]) (HO.out.2.2.2.1 (hc 21 (hd 21 (by decide)) 19 (by decide))) rfl (by decide), rb_lit (l := [1, 1]) (HO.out.2.2.2.2 (hc 21 (hd 21 (by decide)) 20 (by decide))) (by decide)⟩ : RRec wc (.agg #[.int .i64 5, .slice (some ⟨gd, 0, none⟩) 2 2, .slice (some ⟨ge, 0, none⟩) 2 2]) ⟨5, [2, 3], [1, 1]⟩)).mono (fun e w' h => ⟨_, h.1, rfl, h.2⟩)) ?_
      rintro v w' ⟨rfl, hx⟩
      exact ⟨ga, gb, gd, ge, hv.put san_near_apart 22 rfl (lb rfl) (lb rfl) rfl, Lib.hid ⟨HO.out.1.trans hx, fun h => (HO.out.2.1 h).ext hx, fun h => (HO.out.2.2.1 h).ext hx, fun h => (HO.out.2.2.2.1 h).ext hx, fun h => (HO.out.2.2.2.2 h).ext hx⟩⟩
    ·
      rintro L a wc ⟨ga, gb, gd, ge, hv, HO⟩ hL hc hd
      exact wpOp_val rfl rfl (ex_pick rfl (hv.get 17 rfl rfl (hd 17 (by decide))) (hv.get 22 rfl rfl (hd 22 (by decide)))) ⟨ga, gb, gd, ge, hv.put san_near_apart 23 rfl (lb rfl) (lb rfl) rfl, HO⟩
    ·
      rintro L a wc ⟨ga, gb, gd, ge, hv, HO⟩ hL hc hd
      exact wpOp_val rfl rfl (ex_assign rfl (hv.get 23 rfl rfl (hd 23 (by decide)))) ⟨ga, gb, gd, ge, hv.put san_near_apart 24 rfl (lb rfl) (lb rfl) rfl, HO⟩
  · rintro L a wc ⟨ga, gb, gd, ge, hv, HO⟩ hall
    show K a wc
    have ha := act_lit a
    rw [hv.size, hv.defers] at ha
    have hl : ∀ f : Nat → Value, ((List.range (⟨#[c0, c1, .pointer (some ⟨Qa, 0, none⟩), c3, .slice LA 3 cL, c5, c6, c7, .pointer (some ⟨Qb, 0, none⟩), c9, .pointer (some ⟨Ql, 0, none⟩), c11, c12, c13, c14, c15, c16, c17, c18, c19, c20, c21, .slice (some ⟨XF, 0, none⟩) 3 3, c23, c24, c25, c26, c27, c28, c29, c30, c31, c32, c33, c34, c35, c36, c37, c38, c39, c40, c41, c42, c43, c44, c45, c46, c47, c48, c49, c50, c51, c52, c53, c54, c55, c56, c57, c58, c59, c60, c61, c62, c63, c64, c65, c66, c67, c68, c69, c70, c71, c72, c73, c74, c75, c76, c77, c78, c79, c80, c81, c82, c83, c84, c85, c86, c87, c88, c89, c90, c91, c92, c93, c94, c95, c96, c97, c98, c99, c100, c101, c102, c103, c104, c105, c106, c107, c108, c109, c110, c111, c112, c113, c114, c115, c116, c117, c118, c119, c120, c121, c122, c123, c124, c125, c126, c127, c128, c129, c130, c131, c132, c133, c134, c135, c136, c137, c138, c139, c140, c141, c142, c143, c144, c145, c146, c147, c148, c149, c150, c151, c152, c153, c154, c155, c156, c157, c158, c159, c160, c161, c162, c163, c164, c165, c166, c167, c168, c169, c170, c171, c172, c173], df⟩ : Act).tmps.size).map f).toArray = #[f 0, f 1, f 2, f 3, f 4, f 5, f 6, f 7, f 8, f 9, f 10, f 11, f 12, f 13, f 14, f 15, f 16, f 17, f 18, f 19, f 20, f 21, f 22, f 23, f 24, f 25, f 26, f 27, f 28, f 29, f 30, f 31, f 32, f 33, f 34, f 35, f 36, f 37, f 38, f 39, f 40, f 41, f 42, f 43, f 44, f 45, f 46, f 47, f 48, f 49, f 50, f 51, f 52, f 53, f 54, f 55, f 56, f 57, f 58, f 59, f 60, f 61, f 62, f 63, f 64, f 65, f 66, f 67, f 68, f 69, f 70, f 71, f 72, f 73, f 74, f 75, f 76, f 77, f 78, f 79, f 80, f 81, f 82, f 83, f 84, f 85, f 86, f 87, f 88, f 89, f 90, f 91, f 92, f 93, f 94, f 95, f 96, f 97, f 98, f 99, f 100, f 101, f 102, f 103, f 104, f 105, f 106, f 107, f 108, f 109, f 110, f 111, f 112, f 113, f 114, f 115, f 116, f 117, f 118, f 119, f 120, f 121, f 122, f 123, f 124, f 125, f 126, f 127, f 128, f 129, f 130, f 131, f 132, f 133, f 134, f 135, f 136, f 137, f 138, f 139, f 140, f 141, f 142, f 143, f 144, f 145, f 146, f 147, f 148, f 149, f 150, f 151, f 152, f 153, f 154, f 155, f 156, f 157, f 158, f 159, f 160, f 161, f 162, f 163, f 164, f 165, f 166, f 167, f 168, f 169, f 170, f 171, f 172, f 173] := fun _ => rfl
    rw [hl] at ha
    simp only [hv.fixed 0 (by decide), hv.fixed 1 (by decide), hv.fixed 2 (by decide), hv.fixed 3 (by decide), hv.fixed 4 (by decide), hv.fixed 5 (by decide), hv.fixed 6 (by decide), hv.fixed 7 (by decide), hv.fixed 8 (by decide), hv.fixed 9 (by decide), hv.fixed 10 (by decide), hv.fixed 11 (by decide), hv.fixed 12 (by decide), hv.fixed 13 (by decide), hv.fixed 14 (by decide), hv.fixed 15 (by decide), hv.fixed 16 (by decide), hv.fixed 17 (by decide), hv.fixed 18 (by decide), hv.fixed 19 (by decide), hv.fixed 20 (by decide), hv.fixed 21 (by decide), hv.fixed 22 (by decide), hv.fixed 24 (by decide), hv.fixed 25 (by decide), hv.fixed 26 (by decide), hv.fixed 27 (by decide), hv.fixed 28 (by decide), hv.fixed 29 (by decide), hv.fixed 30 (by decide), hv.fixed 31 (by decide), hv.fixed 32 (by decide), hv.fixed 33 (by decide), hv.fixed 34 (by decide), hv.fixed 35 (by decide), hv.fixed 36 (by decide), hv.fixed 37 (by decide), hv.fixed 38 (by decide), hv.fixed 39 (by decide), hv.fixed 40 (by decide), hv.fixed 41 (by decide), hv.fixed 42 (by decide), hv.fixed 43 (by decide), hv.fixed 44 (by decide), hv.fixed 45 (by decide), hv.fixed 46 (by decide), hv.fixed 47 (by decide), hv.fixed 48 (by decide), hv.fixed 49 (by decide), hv.fixed 50 (by decide), hv.fixed 51 (by decide), hv.fixed 52 (by decide), hv.fixed 53 (by decide), hv.fixed 54 (by decide), hv.fixed 55 (by decide), hv.fixed 56 (by decide), hv.fixed 57 (by decide), hv.fixed 58 (by decide), hv.fixed 59 (by decide), hv.fixed 60 (by decide), hv.fixed 61 (by decide), hv.fixed 62 (by decide), hv.fixed 63 (by decide), hv.fixed 64 (by decide), hv.fixed 65 (by decide), hv.fixed 66 (by decide), hv.fixed 67 (by decide), hv.fixed 68 (by decide), hv.fixed 69 (by decide), hv.fixed 70 (by decide), hv.fixed 71 (by decide), hv.fixed 72 (by decide), hv.fixed 73 (by decide), hv.fixed 74 (by decide), hv.fixed 75 (by decide), hv.fixed 76 (by decide), hv.fixed 77 (by decide), hv.fixed 78 (by decide), hv.fixed 79 (by decide), hv.fixed 80 (by decide), hv.fixed 81 (by decide), hv.fixed 82 (by decide), hv.fixed 83 (by decide), hv.fixed 84 (by decide), hv.fixed 85 (by decide), hv.fixed 86 (by decide), hv.fixed 87 (by decide), hv.fixed 88 (by decide), hv.fixed 89 (by decide), hv.fixed 90 (by decide), hv.fixed 91 (by decide), hv.fixed 92 (by decide), hv.fixed 93 (by decide), hv.fixed 94 (by decide), hv.fixed 95 (by decide), hv.fixed 96 (by decide), hv.fixed 97 (by decide), hv.fixed 98 (by decide), hv.fixed 99 (by decide), hv.fixed 100 (by decide), hv.fixed 101 (by decide), hv.fixed 102 (by decide), hv.fixed 103 (by decide), hv.fixed 104 (by decide), hv.fixed 105 (by decide), hv.fixed 106 (by decide), hv.fixed 107 (by decide), hv.fixed 108 (by decide), hv.fixed 109 (by decide), hv.fixed 110 (by decide), hv.fixed 111 (by decide), hv.fixed 112 (by decide), hv.fixed 113 (by decide), hv.fixed 114 (by decide), hv.fixed 115 (by decide), hv.fixed 116 (by decide), hv.fixed 117 (by decide), hv.fixed 118 (by decide), hv.fixed 119 (by decide), hv.fixed 120 (by decide), hv.fixed 145 (by decide), hv.fixed 146 (by decide), hv.fixed 147 (by decide), hv.fixed 148 (by decide), hv.fixed 149 (by decide), hv.fixed 150 (by decide), hv.fixed 151 (by decide), hv.fixed 152 (by decide), hv.fixed 153 (by decide), hv.fixed 154 (by decide), hv.fixed 155 (by decide), hv.fixed 156 (by decide), hv.fixed 157 (by decide), hv.fixed 158 (by decide), hv.fixed 159 (by decide), hv.fixed 160 (by decide), hv.fixed 161 (by decide), hv.fixed 162 (by decide), hv.fixed 163 (by decide), hv.fixed 164 (by decide), hv.fixed 165 (by decide), hv.fixed 166 (by decide), hv.fixed 167 (by decide), hv.fixed 168 (by decide), hv.fixed 169 (by decide), hv.fixed 170 (by decide), hv.fixed 171 (by decide), hv.fixed 172 (by decide), hv.fixed 173 (by decide), hv.get 24 (d := 23) rfl rfl (hall 24 (by decide))] at ha
    rw [ha]
    exact hK _ _ _ _ _ _ _ _ _ _ _ _ _ _ _ _ _ _ _ _ _ _ _ _ wc HO.out.1
end Go.Proofs.YtdmljilcbndmfaaDoor

/- THE WALK over sanity of the laws of rebuild. -/
namespace Go.Proofs.YtdmljilcbndmfaaDoor
open Go.RowKit Go.Shelf
set_option maxRecDepth 100000 in
set_option maxHeartbeats 16000000 in
theorem sanity_any (w : World) (hT : Tab w) :
    Calls Tryd.prog 11 #[] w fun e w' => e = .returned (.bool true) ∧ Ext w w' := by
  have HT := Lib.hid hT
  clear hT
  go_enter Tryd.func11, Tryd.ntmps11
  go_wp2_with fail
  refine (example_any _).mono ?_
  rintro e w1 ⟨gG, rfl, hG, hx1⟩
  have HB := Lib.hid (cells_new w1 #[.int .i64 4, .slice (some ⟨gG, 0, none⟩) 2 2, .int .i64 1] 24)
  obtain ⟨B, hB⟩ : ∃ B, w1.heap.size = B := ⟨_, rfl⟩
  rw [hB] at HB
  have HX := Lib.hid (hx1.trans ((Ext.refl w1).alloc (.cells #[.int .i64 4, .slice (some ⟨gG, 0, none⟩) 2 2, .int .i64 1] 24)))
  have HG := Lib.hid (Rs.ext (Rs.ext RI.ext) _ _ _ _ ((Ext.refl w1).alloc (.cells #[.int .i64 4, .slice (some ⟨gG, 0, none⟩) 2 2, .int .i64 1] 24)) hG)
  have HT := Lib.hid (HT.out.ext HX.out)
  go_upto_region 2 with fail
  obtain ⟨w2, hw2⟩ : ∃ w2, w1.alloc (.cells #[.int .i64 4, .slice (some ⟨gG, 0, none⟩) 2 2, .int .i64 1] 24) = w2 := ⟨_, rfl⟩
  rw [hw2] at HB HX HG HT ⊢
  clear hG hx1 hw2 hB
  have b0 : w2.cell? ⟨B, 0, none⟩ = some (.int .i64 4) := HB.out 0 _ rfl
  have b1 : w2.cell? ⟨B, 1, none⟩ = some (.slice (some ⟨gG, 0, none⟩) 2 2) := HB.out 1 _ rfl
  have b2 : w2.cell? ⟨B, 2, none⟩ = some (.int .i64 1) := HB.out 2 _ rfl
  have hBl : B < w2.heap.size := lt_of_cell b0
  go_wp2_with fail
  refine (bBest_any 4 1 Rb.exG 1 0 _ _ HT.out HG.out).mono ?_
  rintro e w3 ⟨v, rfl, hv, hx⟩
  rw [Rb.ex_best1.2] at hv
  rw [Rb.ex_best1.1]
  obtain ⟨Fa, Ca, hvv, hF, hC⟩ := hv
  have hvv : v = .agg #[.int .i64 0, Fa, Ca] := hvv
  subst hvv
  obtain ⟨FAa, fca, rfl⟩ : ∃ FA fc, Fa = .slice FA 2 fc := by
    obtain ⟨FA, fc, h, _⟩ := hF.form
    exact ⟨FA, fc, h⟩
  obtain ⟨CAa, cca, rfl⟩ : ∃ CA cc, Ca = .slice CA 2 cc := by
    obtain ⟨CA, cc, h, _⟩ := hC.form
    exact ⟨CA, cc, h⟩
  have hxa : Ext w3 (w3.alloc (.cells #[.int .i64 0, .slice FAa 2 fca, .slice CAa 2 cca] 30)) := (Ext.refl w3).alloc _
  have hx2 := hx.trans hxa
  have HX := Lib.hid (HX.out.trans hx2)
  have HT := Lib.hid (HT.out.ext hx2)
  have HG := Lib.hid (Rs.ext (Rs.ext RI.ext) _ _ _ _ hx2 HG.out)
  have HB := Lib.hid (HB.out.ext hx2)
  have HCa := Lib.hid (cells_new w3 #[.int .i64 0, .slice FAa 2 fca, .slice CAa 2 cca] 30)
  have HFa := Lib.hid (And.intro (Rs.ext RI.ext _ _ _ _ hxa hF) (Rs.ext RB.ext _ _ _ _ hxa hC))
  clear hF hC hx hxa hx2 b0 b1 b2 hBl
  go_upto_region 3 with fail
  obtain ⟨Qa, hQa⟩ : ∃ Q, w3.heap.size = Q := ⟨_, rfl⟩
  rw [hQa] at HCa
  try rw [hQa]
  obtain ⟨w4, hw2⟩ : ∃ x, w3.alloc (.cells #[.int .i64 0, .slice FAa 2 fca, .slice CAa 2 cca] 30) = x := ⟨_, rfl⟩
  rw [hw2] at HX HT HG HB HCa HFa ⊢
  clear hw2 hQa
  have b0 : w4.cell? ⟨B, 0, none⟩ = some (.int .i64 4) := HB.out 0 _ rfl
  have b1 : w4.cell? ⟨B, 1, none⟩ = some (.slice (some ⟨gG, 0, none⟩) 2 2) := HB.out 1 _ rfl
  have b2 : w4.cell? ⟨B, 2, none⟩ = some (.int .i64 1) := HB.out 2 _ rfl
  have hBl : B < w4.heap.size := lt_of_cell b0
  go_wp2_with fail
  refine (bAll_any 4 1 Rb.exG 17 0 _ _ HT.out HG.out).mono ?_
  rintro e w5 ⟨v, rfl, hv, _, hx⟩
  rw [Rb.ex_all.2] at hv
  rw [Rb.ex_all.1]
  obtain ⟨LA, cL, rfl⟩ : ∃ A c, v = .slice A 3 c := by
    obtain ⟨A, c, h, _⟩ := hv.form
    exact ⟨A, c, h⟩
  have HX := Lib.hid (HX.out.trans hx)
  have HT := Lib.hid (HT.out.ext hx)
  have HG := Lib.hid (Rs.ext (Rs.ext RI.ext) _ _ _ _ hx HG.out)
  have HB := Lib.hid (HB.out.ext hx)
  have HCa := Lib.hid (HCa.out.ext hx)
  have HFa := Lib.hid (And.intro (Rs.ext RI.ext _ _ _ _ hx HFa.out.1) (Rs.ext RB.ext _ _ _ _ hx HFa.out.2))
  have HAL := Lib.hid hv
  clear hv hx b0 b1 b2 hBl
  go_upto_region 4 with fail
  have b0 : w5.cell? ⟨B, 0, none⟩ = some (.int .i64 4) := HB.out 0 _ rfl
  have b1 : w5.cell? ⟨B, 1, none⟩ = some (.slice (some ⟨gG, 0, none⟩) 2 2) := HB.out 1 _ rfl
  have b2 : w5.cell? ⟨B, 2, none⟩ = some (.int .i64 1) := HB.out 2 _ rfl
  have hBl : B < w5.heap.size := lt_of_cell b0
  go_wp2_with fail
  refine (bBest_any 4 1 Rb.exG 19 0 _ _ HT.out HG.out).mono ?_
  rintro e w6 ⟨v, rfl, hv, hx⟩
  rw [Rb.ex_best19.2] at hv
  rw [Rb.ex_best19.1]
  obtain ⟨Fn, Cn, hvv, hF, hC⟩ := hv
  have hvv : v = .agg #[.int .i64 0, Fn, Cn] := hvv
  subst hvv
  obtain ⟨FAn, fcn, rfl⟩ : ∃ FA fc, Fn = .slice FA 0 fc := by
    obtain ⟨FA, fc, h, _⟩ := hF.form
    exact ⟨FA, fc, h⟩
  obtain ⟨CAn, ccn, rfl⟩ : ∃ CA cc, Cn = .slice CA 0 cc := by
    obtain ⟨CA, cc, h, _⟩ := hC.form
    exact ⟨CA, cc, h⟩
  have hxa : Ext w6 (w6.alloc (.cells #[.int .i64 0, .slice FAn 0 fcn, .slice CAn 0 ccn] 30)) := (Ext.refl w6).alloc _
  have hx2 := hx.trans hxa
  have HX := Lib.hid (HX.out.trans hx2)
  have HT := Lib.hid (HT.out.ext hx2)
  have HG := Lib.hid (Rs.ext (Rs.ext RI.ext) _ _ _ _ hx2 HG.out)
  have HB := Lib.hid (HB.out.ext hx2)
  have HCa := Lib.hid (HCa.out.ext hx2)
  have HFa := Lib.hid (And.intro (Rs.ext RI.ext _ _ _ _ hx2 HFa.out.1) (Rs.ext RB.ext _ _ _ _ hx2 HFa.out.2))
  have HAL := Lib.hid (RRs.ext _ _ _ _ hx2 HAL.out)
  have HCn := Lib.hid (cells_new w6 #[.int .i64 0, .slice FAn 0 fcn, .slice CAn 0 ccn] 30)
  have HFn := Lib.hid (And.intro (Rs.ext RI.ext _ _ _ _ hxa hF) (Rs.ext RB.ext _ _ _ _ hxa hC))
  clear hF hC hx hxa hx2 b0 b1 b2 hBl
  go_upto_region 5 with fail
  obtain ⟨Qn, hQn⟩ : ∃ Q, w6.heap.size = Q := ⟨_, rfl⟩
  rw [hQn] at HCn
  try rw [hQn]
  obtain ⟨w7, hw2⟩ : ∃ x, w6.alloc (.cells #[.int .i64 0, .slice FAn 0 fcn, .slice CAn 0 ccn] 30) = x := ⟨_, rfl⟩
  rw [hw2] at HX HT HG HB HCa HFa HAL HCn HFn ⊢
  clear hw2 hQn
  have b0 : w7.cell? ⟨B, 0, none⟩ = some (.int .i64 4) := HB.out 0 _ rfl
  have b1 : w7.cell? ⟨B, 1, none⟩ = some (.slice (some ⟨gG, 0, none⟩) 2 2) := HB.out 1 _ rfl
  have b2 : w7.cell? ⟨B, 2, none⟩ = some (.int .i64 1) := HB.out 2 _ rfl
  have hBl : B < w7.heap.size := lt_of_cell b0
  go_wp2_with fail
  refine (bBest_any 4 1 Rb.exG 17 0 _ _ HT.out HG.out).mono ?_
  rintro e w8 ⟨v, rfl, hv, hx⟩
  rw [Rb.ex_best17.2] at hv
  rw [Rb.ex_best17.1]
  obtain ⟨Fb, Cb, hvv, hF, hC⟩ := hv
  have hvv : v = .agg #[.int .i64 0, Fb, Cb] := hvv
  subst hvv
  obtain ⟨FAb, fcb, rfl⟩ : ∃ FA fc, Fb = .slice FA 4 fc := by
    obtain ⟨FA, fc, h, _⟩ := hF.form
    exact ⟨FA, fc, h⟩
  obtain ⟨CAb, ccb, rfl⟩ : ∃ CA cc, Cb = .slice CA 4 cc := by
    obtain ⟨CA, cc, h, _⟩ := hC.form
    exact ⟨CA, cc, h⟩
  have hxa : Ext w8 (w8.alloc (.cells #[.int .i64 0, .slice FAb 4 fcb, .slice CAb 4 ccb] 30)) := (Ext.refl w8).alloc _
  have hx2 := hx.trans hxa
  have HX := Lib.hid (HX.out.trans hx2)
  have HT := Lib.hid (HT.out.ext hx2)
  have HG := Lib.hid (Rs.ext (Rs.ext RI.ext) _ _ _ _ hx2 HG.out)
  have HB := Lib.hid (HB.out.ext hx2)
  have HCa := Lib.hid (HCa.out.ext hx2)
  have HFa := Lib.hid (And.intro (Rs.ext RI.ext _ _ _ _ hx2 HFa.out.1) (Rs.ext RB.ext _ _ _ _ hx2 HFa.out.2))
  have HAL := Lib.hid (RRs.ext _ _ _ _ hx2 HAL.out)
  have HCn := Lib.hid (HCn.out.ext hx2)
  have HFn := Lib.hid (And.intro (Rs.ext RI.ext _ _ _ _ hx2 HFn.out.1) (Rs.ext RB.ext _ _ _ _ hx2 HFn.out.2))
  have HCb := Lib.hid (cells_new w8 #[.int .i64 0, .slice FAb 4 fcb, .slice CAb 4 ccb] 30)
  have HFb := Lib.hid (And.intro (Rs.ext RI.ext _ _ _ _ hxa hF) (Rs.ext RB.ext _ _ _ _ hxa hC))
  clear hF hC hx hxa hx2 b0 b1 b2 hBl
  go_upto_region 6 with fail
  obtain ⟨Qb, hQb⟩ : ∃ Q, w8.heap.size = Q := ⟨_, rfl⟩
  rw [hQb] at HCb
  try rw [hQb]
  obtain ⟨w9, hw2⟩ : ∃ x, w8.alloc (.cells #[.int .i64 0, .slice FAb 4 fcb, .slice CAb 4 ccb] 30) = x := ⟨_, rfl⟩
  rw [hw2] at HX HT HG HB HCa HFa HAL HCn HFn HCb HFb ⊢
  clear hw2 hQb
  have b0 : w9.cell? ⟨B, 0, none⟩ = some (.int .i64 4) := HB.out 0 _ rfl
  have b1 : w9.cell? ⟨B, 1, none⟩ = some (.slice (some ⟨gG, 0, none⟩) 2 2) := HB.out 1 _ rfl
  have b2 : w9.cell? ⟨B, 2, none⟩ = some (.int .i64 1) := HB.out 2 _ rfl
  have hBl : B < w9.heap.size := lt_of_cell b0
  go_wp2_with fail
  refine (bLocal_any 4 1 Rb.exG 5 _ _ HT.out HG.out).mono ?_
  rintro e w10 ⟨v, rfl, hv, hx⟩
  rw [Rb.ex_local.2.1] at hv
  rw [Rb.ex_local.1]
  obtain ⟨Fl, Cl, hvv, hF, hC⟩ := hv
  have hvv : v = .agg #[.int .i64 5, Fl, Cl] := hvv
  subst hvv
  obtain ⟨FAl, fcl, rfl⟩ : ∃ FA fc, Fl = .slice FA 2 fc := by
    obtain ⟨FA, fc, h, _⟩ := hF.form
    exact ⟨FA, fc, h⟩
  obtain ⟨CAl, ccl, rfl⟩ : ∃ CA cc, Cl = .slice CA 2 cc := by
    obtain ⟨CA, cc, h, _⟩ := hC.form
    exact ⟨CA, cc, h⟩
  have hxa : Ext w10 (w10.alloc (.cells #[.int .i64 5, .slice FAl 2 fcl, .slice CAl 2 ccl] 30)) := (Ext.refl w10).alloc _
  have hx2 := hx.trans hxa
  have HX := Lib.hid (HX.out.trans hx2)
  have HT := Lib.hid (HT.out.ext hx2)
  have HG := Lib.hid (Rs.ext (Rs.ext RI.ext) _ _ _ _ hx2 HG.out)
  have HB := Lib.hid (HB.out.ext hx2)
  have HCa := Lib.hid (HCa.out.ext hx2)
  have HFa := Lib.hid (And.intro (Rs.ext RI.ext _ _ _ _ hx2 HFa.out.1) (Rs.ext RB.ext _ _ _ _ hx2 HFa.out.2))
  have HAL := Lib.hid (RRs.ext _ _ _ _ hx2 HAL.out)
  have HCn := Lib.hid (HCn.out.ext hx2)
  have HFn := Lib.hid (And.intro (Rs.ext RI.ext _ _ _ _ hx2 HFn.out.1) (Rs.ext RB.ext _ _ _ _ hx2 HFn.out.2))
  have HCb := Lib.hid (HCb.out.ext hx2)
  have HFb := Lib.hid (And.intro (Rs.ext RI.ext _ _ _ _ hx2 HFb.out.1) (Rs.ext RB.ext _ _ _ _ hx2 HFb.out.2))
  have HCl := Lib.hid (cells_new w10 #[.int .i64 5, .slice FAl 2 fcl, .slice CAl 2 ccl] 30)
  have HFl := Lib.hid (And.intro (Rs.ext RI.ext _ _ _ _ hxa hF) (Rs.ext RB.ext _ _ _ _ hxa hC))
  clear hF hC hx hxa hx2 b0 b1 b2 hBl
  go_upto_region 7 with fail
  obtain ⟨Ql, hQl⟩ : ∃ Q, w10.heap.size = Q := ⟨_, rfl⟩
  rw [hQl] at HCl
  try rw [hQl]
  obtain ⟨w11, hw2⟩ : ∃ x, w10.alloc (.cells #[.int .i64 5, .slice FAl 2 fcl, .slice CAl 2 ccl] 30) = x := ⟨_, rfl⟩
  rw [hw2] at HX HT HG HB HCa HFa HAL HCn HFn HCb HFb HCl HFl ⊢
  clear hw2 hQl
  have b0 : w11.cell? ⟨B, 0, none⟩ = some (.int .i64 4) := HB.out 0 _ rfl
  have b1 : w11.cell? ⟨B, 1, none⟩ = some (.slice (some ⟨gG, 0, none⟩) 2 2) := HB.out 1 _ rfl
  have b2 : w11.cell? ⟨B, 2, none⟩ = some (.int .i64 1) := HB.out 2 _ rfl
  have hBl : B < w11.heap.size := lt_of_cell b0
  go_wp2_with fail
  refine (bLocal_any 4 1 Rb.exG 6 _ _ HT.out HG.out).mono ?_
  rintro e w12 ⟨v, rfl, hv, hx⟩
  rw [Rb.ex_local.2.2.2] at hv
  rw [Rb.ex_local.2.2.1]
  obtain ⟨Fm, Cm, hvv, hF, hC⟩ := hv
  have hvv : v = .agg #[.int .i64 0, Fm, Cm] := hvv
  subst hvv
  obtain ⟨FAm, fcm, rfl⟩ : ∃ FA fc, Fm = .slice FA 0 fc := by
    obtain ⟨FA, fc, h, _⟩ := hF.form
    exact ⟨FA, fc, h⟩
  obtain ⟨CAm, ccm, rfl⟩ : ∃ CA cc, Cm = .slice CA 0 cc := by
    obtain ⟨CA, cc, h, _⟩ := hC.form
    exact ⟨CA, cc, h⟩
  have hxa : Ext w12 (w12.alloc (.cells #[.int .i64 0, .slice FAm 0 fcm, .slice CAm 0 ccm] 30)) := (Ext.refl w12).alloc _
  have hx2 := hx.trans hxa
  have HX := Lib.hid (HX.out.trans hx2)
  have HT := Lib.hid (HT.out.ext hx2)
  have HG := Lib.hid (Rs.ext (Rs.ext RI.ext) _ _ _ _ hx2 HG.out)
  have HB := Lib.hid (HB.out.ext hx2)
  have HCa := Lib.hid (HCa.out.ext hx2)
  have HFa := Lib.hid (And.intro (Rs.ext RI.ext _ _ _ _ hx2 HFa.out.1) (Rs.ext RB.ext _ _ _ _ hx2 HFa.out.2))
  have HAL := Lib.hid (RRs.ext _ _ _ _ hx2 HAL.out)
  have HCn := Lib.hid (HCn.out.ext hx2)
  have HFn := Lib.hid (And.intro (Rs.ext RI.ext _ _ _ _ hx2 HFn.out.1) (Rs.ext RB.ext _ _ _ _ hx2 HFn.out.2))
  have HCb := Lib.hid (HCb.out.ext hx2)
  have HFb := Lib.hid (And.intro (Rs.ext RI.ext _ _ _ _ hx2 HFb.out.1) (Rs.ext RB.ext _ _ _ _ hx2 HFb.out.2))
  have HCl := Lib.hid (HCl.out.ext hx2)
  have HFl := Lib.hid (And.intro (Rs.ext RI.ext _ _ _ _ hx2 HFl.out.1) (Rs.ext RB.ext _ _ _ _ hx2 HFl.out.2))
  have HCm := Lib.hid (cells_new w12 #[.int .i64 0, .slice FAm 0 fcm, .slice CAm 0 ccm] 30)
  have HFm := Lib.hid (And.intro (Rs.ext RI.ext _ _ _ _ hxa hF) (Rs.ext RB.ext _ _ _ _ hxa hC))
  clear hF hC hx hxa hx2 b0 b1 b2 hBl
  go_upto_region 8 with fail
  obtain ⟨Qm, hQm⟩ : ∃ Q, w12.heap.size = Q := ⟨_, rfl⟩
  rw [hQm] at HCm
  try rw [hQm]
  obtain ⟨w13, hw2⟩ : ∃ x, w12.alloc (.cells #[.int .i64 0, .slice FAm 0 fcm, .slice CAm 0 ccm] 30) = x := ⟨_, rfl⟩
  rw [hw2] at HX HT HG HB HCa HFa HAL HCn HFn HCb HFb HCl HFl HCm HFm ⊢
  clear hw2 hQm
  have b0 : w13.cell? ⟨B, 0, none⟩ = some (.int .i64 4) := HB.out 0 _ rfl
  have b1 : w13.cell? ⟨B, 1, none⟩ = some (.slice (some ⟨gG, 0, none⟩) 2 2) := HB.out 1 _ rfl
  have b2 : w13.cell? ⟨B, 2, none⟩ = some (.int .i64 1) := HB.out 2 _ rfl
  have hBl : B < w13.heap.size := lt_of_cell b0
  go_wp2_with fail
  refine (bJoint_any 4 1 Rb.exG 5 _ _ HT.out HG.out).mono ?_
  rintro e w14 ⟨v1, v2, rfl, h1, h2, hx⟩
  rw [Rb.ex_joint.2] at h1 h2
  rw [Rb.ex_joint.1]
  have h1 : Rs RI w14 v1 [1, 3, 4, 5] := h1
  have h2 : RRs w14 v2 [⟨0, [1, 4], [1, 1]⟩, ⟨2, [3, 5], [1, 1]⟩] := h2
  obtain ⟨JA, cJ, rfl⟩ : ∃ A c, v1 = .slice A 4 c := by
    obtain ⟨A, c, h, _⟩ := h1.form
    exact ⟨A, c, h⟩
  obtain ⟨JB, dJ, rfl⟩ : ∃ A c, v2 = .slice A 2 c := by
    obtain ⟨A, c, h, _⟩ := h2.form
    exact ⟨A, c, h⟩
  have HX := Lib.hid (HX.out.trans hx)
  have HT := Lib.hid (HT.out.ext hx)
  have HG := Lib.hid (Rs.ext (Rs.ext RI.ext) _ _ _ _ hx HG.out)
  have HB := Lib.hid (HB.out.ext hx)
  have HCa := Lib.hid (HCa.out.ext hx)
  have HFa := Lib.hid (And.intro (Rs.ext RI.ext _ _ _ _ hx HFa.out.1) (Rs.ext RB.ext _ _ _ _ hx HFa.out.2))
  have HAL := Lib.hid (RRs.ext _ _ _ _ hx HAL.out)
  have HCn := Lib.hid (HCn.out.ext hx)
  have HFn := Lib.hid (And.intro (Rs.ext RI.ext _ _ _ _ hx HFn.out.1) (Rs.ext RB.ext _ _ _ _ hx HFn.out.2))
  have HCb := Lib.hid (HCb.out.ext hx)
  have HFb := Lib.hid (And.intro (Rs.ext RI.ext _ _ _ _ hx HFb.out.1) (Rs.ext RB.ext _ _ _ _ hx HFb.out.2))
  have HCl := Lib.hid (HCl.out.ext hx)
  have HFl := Lib.hid (And.intro (Rs.ext RI.ext _ _ _ _ hx HFl.out.1) (Rs.ext RB.ext _ _ _ _ hx HFl.out.2))
  have HCm := Lib.hid (HCm.out.ext hx)
  have HFm := Lib.hid (And.intro (Rs.ext RI.ext _ _ _ _ hx HFm.out.1) (Rs.ext RB.ext _ _ _ _ hx HFm.out.2))
  have HJ := Lib.hid (And.intro h1 h2)
  clear h1 h2 hx b0 b1 b2 hBl
  clear HG HB HCn HFn HCm HFm
  go_upto_region 9 with fail
  go_wp2_with fail
  refine (recipe8_any 0 _ _ 2 2 2 2 _ _ _ rfl rfl).mono ?_
  rintro e w15 ⟨rfl, hx⟩
  have hci := (cells_new w14 #[.int .i64 1, .int .i64 4] 3).ext (((Ext.refl _).alloc (.cells #[.int .u8 1, .int .u8 1] 5)).trans hx)
  have hcb := (cells_new (w14.alloc (.cells #[.int .i64 1, .int .i64 4] 3)) #[.int .u8 1, .int .u8 1] 5).ext hx
  rw [World.size_alloc] at hcb
  have hx2 := Ext.trans ((((Ext.refl w14).alloc _).alloc _)) hx
  have HX := Lib.hid (HX.out.trans hx2)
  have HT := Lib.hid (HT.out.ext hx2)
  have HCa := Lib.hid (HCa.out.ext hx2)
  have HFa := Lib.hid (And.intro (Rs.ext RI.ext _ _ _ _ hx2 HFa.out.1) (Rs.ext RB.ext _ _ _ _ hx2 HFa.out.2))
  have HAL := Lib.hid (RRs.ext _ _ _ _ hx2 HAL.out)
  have HCb := Lib.hid (HCb.out.ext hx2)
  have HFb := Lib.hid (And.intro (Rs.ext RI.ext _ _ _ _ hx2 HFb.out.1) (Rs.ext RB.ext _ _ _ _ hx2 HFb.out.2))
  have HCl := Lib.hid (HCl.out.ext hx2)
  have HFl := Lib.hid (And.intro (Rs.ext RI.ext _ _ _ _ hx2 HFl.out.1) (Rs.ext RB.ext _ _ _ _ hx2 HFl.out.2))
  have HJ := Lib.hid (And.intro (Rs.ext RI.ext _ _ _ _ hx2 HJ.out.1) (RRs.ext _ _ _ _ hx2 HJ.out.2))
  obtain ⟨Xp, hXp⟩ : ∃ X, w14.heap.size = X := ⟨_, rfl⟩
  rw [hXp] at hci hcb
  try rw [hXp]
  have HRp : Hid (RRec w15 (.agg #[.int .i64 0, .slice (some ⟨Xp, 0, none⟩) 2 2, .slice (some ⟨Xp + 1, 0, none⟩) 2 2]) ⟨0, [1, 4], [1, 1]⟩) := Lib.hid ⟨_, _, rfl, rs_lit (l := [1, 4]) hci rfl (by decide), rb_lit (l := [1, 1]) hcb (by decide)⟩
  clear hci hcb hx hx2 hXp
  go_wp2_with fail
  have htx : Rs RS (w15.alloc (.cells #[.string { data := #[3, 4] }, .string { data := #[2, 6] }] 9)) (.slice (some ⟨w15.heap.size, 0, none⟩) 2 2) [[3, 4], [2, 6]] := rt_lit (l := [[3, 4], [2, 6]]) (cells_new w15 #[.string { data := #[3, 4] }, .string { data := #[2, 6] }] 9) (by decide)
  have hxa : Ext w15 (w15.alloc (.cells #[.string { data := #[3, 4] }, .string { data := #[2, 6] }] 9)) := (Ext.refl _).alloc _
  refine (bApply_any ⟨0, [1, 4], [1, 1]⟩ [[3, 4], [2, 6]] _ _ _ (HT.out.ext hxa) (RRec.ext _ _ _ _ hxa HRp.out) htx (by decide) (by decide) (by decide)).mono ?_
  rintro e w16 ⟨rfl, hx⟩
  rw [Rb.ex_apply.1, Rb.ex_apply.2.1, show sb [1, 2] = ({ data := #[1, 2] } : ByteArray) from rfl]
  have hx2 := Ext.trans hxa hx
  have HX := Lib.hid (HX.out.trans hx2)
  have HT := Lib.hid (HT.out.ext hx2)
  have HCa := Lib.hid (HCa.out.ext hx2)
  have HFa := Lib.hid (And.intro (Rs.ext RI.ext _ _ _ _ hx2 HFa.out.1) (Rs.ext RB.ext _ _ _ _ hx2 HFa.out.2))
  have HAL := Lib.hid (RRs.ext _ _ _ _ hx2 HAL.out)
  have HCb := Lib.hid (HCb.out.ext hx2)
  have HFb := Lib.hid (And.intro (Rs.ext RI.ext _ _ _ _ hx2 HFb.out.1) (Rs.ext RB.ext _ _ _ _ hx2 HFb.out.2))
  have HCl := Lib.hid (HCl.out.ext hx2)
  have HFl := Lib.hid (And.intro (Rs.ext RI.ext _ _ _ _ hx2 HFl.out.1) (Rs.ext RB.ext _ _ _ _ hx2 HFl.out.2))
  have HJ := Lib.hid (And.intro (Rs.ext RI.ext _ _ _ _ hx2 HJ.out.1) (RRs.ext _ _ _ _ hx2 HJ.out.2))
  have HRp := Lib.hid (RRec.ext _ _ _ _ hx2 HRp.out)
  clear htx hxa hx hx2
  clear HRp
  go_upto_region 10 with fail
  go_wp2_with fail
  refine (recipe8_any 0 _ _ 2 2 2 2 _ _ _ rfl rfl).mono ?_
  rintro e w17 ⟨rfl, hx⟩
  have hci := (cells_new w16 #[.int .i64 1, .int .i64 4] 3).ext (((Ext.refl _).alloc (.cells #[.int .u8 1, .int .u8 1] 5)).trans hx)
  have hcb := (cells_new (w16.alloc (.cells #[.int .i64 1, .int .i64 4] 3)) #[.int .u8 1, .int .u8 1] 5).ext hx
  rw [World.size_alloc] at hcb
  have hx2 := Ext.trans ((((Ext.refl w16).alloc _).alloc _)) hx
  have HX := Lib.hid (HX.out.trans hx2)
  have HT := Lib.hid (HT.out.ext hx2)
  have HCa := Lib.hid (HCa.out.ext hx2)
  have HFa := Lib.hid (And.intro (Rs.ext RI.ext _ _ _ _ hx2 HFa.out.1) (Rs.ext RB.ext _ _ _ _ hx2 HFa.out.2))
  have HAL := Lib.hid (RRs.ext _ _ _ _ hx2 HAL.out)
  have HCb := Lib.hid (HCb.out.ext hx2)
  have HFb := Lib.hid (And.intro (Rs.ext RI.ext _ _ _ _ hx2 HFb.out.1) (Rs.ext RB.ext _ _ _ _ hx2 HFb.out.2))
  have HCl := Lib.hid (HCl.out.ext hx2)
  have HFl := Lib.hid (And.intro (Rs.ext RI.ext _ _ _ _ hx2 HFl.out.1) (Rs.ext RB.ext _ _ _ _ hx2 HFl.out.2))
  have HJ := Lib.hid (And.intro (Rs.ext RI.ext _ _ _ _ hx2 HJ.out.1) (RRs.ext _ _ _ _ hx2 HJ.out.2))
  obtain ⟨Xq, hXq⟩ : ∃ X, w16.heap.size = X := ⟨_, rfl⟩
  rw [hXq] at hci hcb
  try rw [hXq]
  have HRq : Hid (RRec w17 (.agg #[.int .i64 0, .slice (some ⟨Xq, 0, none⟩) 2 2, .slice (some ⟨Xq + 1, 0, none⟩) 2 2]) ⟨0, [1, 4], [1, 1]⟩) := Lib.hid ⟨_, _, rfl, rs_lit (l := [1, 4]) hci rfl (by decide), rb_lit (l := [1, 1]) hcb (by decide)⟩
  clear hci hcb hx hx2 hXq
  go_wp2_with fail
  have htx : Rs RS (w17.alloc (.cells #[.string { data := #[97] }, .string { data := #[98, 99] }] 9)) (.slice (some ⟨w17.heap.size, 0, none⟩) 2 2) [[97], [98, 99]] := rt_lit (l := [[97], [98, 99]]) (cells_new w17 #[.string { data := #[97] }, .string { data := #[98, 99] }] 9) (by decide)
  have hxa : Ext w17 (w17.alloc (.cells #[.string { data := #[97] }, .string { data := #[98, 99] }] 9)) := (Ext.refl _).alloc _
  refine (bApply_any ⟨0, [1, 4], [1, 1]⟩ [[97], [98, 99]] _ _ _ (HT.out.ext hxa) (RRec.ext _ _ _ _ hxa HRq.out) htx (by decide) (by decide) (by decide)).mono ?_
  rintro e w18 ⟨rfl, hx⟩
  rw [Rb.ex_apply.2.2.1]
  have hx2 := Ext.trans hxa hx
  have HX := Lib.hid (HX.out.trans hx2)
  have HT := Lib.hid (HT.out.ext hx2)
  have HCa := Lib.hid (HCa.out.ext hx2)
  have HFa := Lib.hid (And.intro (Rs.ext RI.ext _ _ _ _ hx2 HFa.out.1) (Rs.ext RB.ext _ _ _ _ hx2 HFa.out.2))
  have HAL := Lib.hid (RRs.ext _ _ _ _ hx2 HAL.out)
  have HCb := Lib.hid (HCb.out.ext hx2)
  have HFb := Lib.hid (And.intro (Rs.ext RI.ext _ _ _ _ hx2 HFb.out.1) (Rs.ext RB.ext _ _ _ _ hx2 HFb.out.2))
  have HCl := Lib.hid (HCl.out.ext hx2)
  have HFl := Lib.hid (And.intro (Rs.ext RI.ext _ _ _ _ hx2 HFl.out.1) (Rs.ext RB.ext _ _ _ _ hx2 HFl.out.2))
  have HJ := Lib.hid (And.intro (Rs.ext RI.ext _ _ _ _ hx2 HJ.out.1) (RRs.ext _ _ _ _ hx2 HJ.out.2))
  have HRq := Lib.hid (RRec.ext _ _ _ _ hx2 HRq.out)
  clear htx hxa hx hx2
  clear HRq
  go_upto_region 11 with fail
  go_upto_region 12 with fail
  go_wp2_with fail
  refine (recipe8_any 0 _ _ 4 4 4 4 _ _ _ rfl rfl).mono ?_
  rintro e w19 ⟨rfl, hx⟩
  have hci := (cells_new w18 #[.int .i64 1, .int .i64 2, .int .i64 3, .int .i64 6] 3).ext (((Ext.refl _).alloc (.cells #[.int .u8 2, .int .u8 4, .int .u8 8, .int .u8 1] 5)).trans hx)
  have hcb := (cells_new (w18.alloc (.cells #[.int .i64 1, .int .i64 2, .int .i64 3, .int .i64 6] 3)) #[.int .u8 2, .int .u8 4, .int .u8 8, .int .u8 1] 5).ext hx
  rw [World.size_alloc] at hcb
  have hx2 := Ext.trans ((((Ext.refl w18).alloc _).alloc _)) hx
  have HX := Lib.hid (HX.out.trans hx2)
  have HT := Lib.hid (HT.out.ext hx2)
  have HCa := Lib.hid (HCa.out.ext hx2)
  have HFa := Lib.hid (And.intro (Rs.ext RI.ext _ _ _ _ hx2 HFa.out.1) (Rs.ext RB.ext _ _ _ _ hx2 HFa.out.2))
  have HAL := Lib.hid (RRs.ext _ _ _ _ hx2 HAL.out)
  have HCb := Lib.hid (HCb.out.ext hx2)
  have HFb := Lib.hid (And.intro (Rs.ext RI.ext _ _ _ _ hx2 HFb.out.1) (Rs.ext RB.ext _ _ _ _ hx2 HFb.out.2))
  have HCl := Lib.hid (HCl.out.ext hx2)
  have HFl := Lib.hid (And.intro (Rs.ext RI.ext _ _ _ _ hx2 HFl.out.1) (Rs.ext RB.ext _ _ _ _ hx2 HFl.out.2))
  have HJ := Lib.hid (And.intro (Rs.ext RI.ext _ _ _ _ hx2 HJ.out.1) (RRs.ext _ _ _ _ hx2 HJ.out.2))
  obtain ⟨Xu, hXu⟩ : ∃ X, w18.heap.size = X := ⟨_, rfl⟩
  rw [hXu] at hci hcb
  try rw [hXu]
  have HRu : Hid (RRec w19 (.agg #[.int .i64 0, .slice (some ⟨Xu, 0, none⟩) 4 4, .slice (some ⟨Xu + 1, 0, none⟩) 4 4]) ⟨0, [1, 2, 3, 6], [2, 4, 8, 1]⟩) := Lib.hid ⟨_, _, rfl, rs_lit (l := [1, 2, 3, 6]) hci rfl (by decide), rb_lit (l := [2, 4, 8, 1]) hcb (by decide)⟩
  clear hci hcb hx hx2 hXu
  go_wp2_with fail
  refine (recipe8_any 0 _ _ 4 4 4 4 _ _ _ rfl rfl).mono ?_
  rintro e w20 ⟨rfl, hx⟩
  have hci := (cells_new w19 #[.int .i64 1, .int .i64 2, .int .i64 5, .int .i64 6] 3).ext (((Ext.refl _).alloc (.cells #[.int .u8 2, .int .u8 12, .int .u8 8, .int .u8 1] 5)).trans hx)
  have hcb := (cells_new (w19.alloc (.cells #[.int .i64 1, .int .i64 2, .int .i64 5, .int .i64 6] 3)) #[.int .u8 2, .int .u8 12, .int .u8 8, .int .u8 1] 5).ext hx
  rw [World.size_alloc] at hcb
  have hx2 := Ext.trans ((((Ext.refl w19).alloc _).alloc _)) hx
  have HX := Lib.hid (HX.out.trans hx2)
  have HT := Lib.hid (HT.out.ext hx2)
  have HCa := Lib.hid (HCa.out.ext hx2)
  have HFa := Lib.hid (And.intro (Rs.ext RI.ext _ _ _ _ hx2 HFa.out.1) (Rs.ext RB.ext _ _ _ _ hx2 HFa.out.2))
  have HAL := Lib.hid (RRs.ext _ _ _ _ hx2 HAL.out)
  have HCb := Lib.hid (HCb.out.ext hx2)
  have HFb := Lib.hid (And.intro (Rs.ext RI.ext _ _ _ _ hx2 HFb.out.1) (Rs.ext RB.ext _ _ _ _ hx2 HFb.out.2))
  have HCl := Lib.hid (HCl.out.ext hx2)
  have HFl := Lib.hid (And.intro (Rs.ext RI.ext _ _ _ _ hx2 HFl.out.1) (Rs.ext RB.ext _ _ _ _ hx2 HFl.out.2))
  have HJ := Lib.hid (And.intro (Rs.ext RI.ext _ _ _ _ hx2 HJ.out.1) (RRs.ext _ _ _ _ hx2 HJ.out.2))
  have HRu := Lib.hid (RRec.ext _ _ _ _ hx2 HRu.out)
  obtain ⟨Xx, hXx⟩ : ∃ X, w19.heap.size = X := ⟨_, rfl⟩
  rw [hXx] at hci hcb
  try rw [hXx]
  have HRx : Hid (RRec w20 (.agg #[.int .i64 0, .slice (some ⟨Xx, 0, none⟩) 4 4, .slice (some ⟨Xx + 1, 0, none⟩) 4 4]) ⟨0, [1, 2, 5, 6], [2, 12, 8, 1]⟩) := Lib.hid ⟨_, _, rfl, rs_lit (l := [1, 2, 5, 6]) hci rfl (by decide), rb_lit (l := [2, 12, 8, 1]) hcb (by decide)⟩
  clear hci hcb hx hx2 hXx
  go_wp2_with fail
  refine (recipe8_any 0 _ _ 4 4 4 4 _ _ _ rfl rfl).mono ?_
  rintro e w21 ⟨rfl, hx⟩
  have hci := (cells_new w20 #[.int .i64 1, .int .i64 3, .int .i64 5, .int .i64 6] 3).ext (((Ext.refl _).alloc (.cells #[.int .u8 2, .int .u8 12, .int .u8 4, .int .u8 1] 5)).trans hx)
  have hcb := (cells_new (w20.alloc (.cells #[.int .i64 1, .int .i64 3, .int .i64 5, .int .i64 6] 3)) #[.int .u8 2, .int .u8 12, .int .u8 4, .int .u8 1] 5).ext hx
  rw [World.size_alloc] at hcb
  have hx2 := Ext.trans ((((Ext.refl w20).alloc _).alloc _)) hx
  have HX := Lib.hid (HX.out.trans hx2)
  have HT := Lib.hid (HT.out.ext hx2)
  have HCa := Lib.hid (HCa.out.ext hx2)
  have HFa := Lib.hid (And.intro (Rs.ext RI.ext _ _ _ _ hx2 HFa.out.1) (Rs.ext RB.ext _ _ _ _ hx2 HFa.out.2))
  have HAL := Lib.hid (RRs.ext _ _ _ _ hx2 HAL.out)
  have HCb := Lib.hid (HCb.out.ext hx2)
  have HFb := Lib.hid (And.intro (Rs.ext RI.ext _ _ _ _ hx2 HFb.out.1) (Rs.ext RB.ext _ _ _ _ hx2 HFb.out.2))
  have HCl := Lib.hid (HCl.out.ext hx2)
  have HFl := Lib.hid (And.intro (Rs.ext RI.ext _ _ _ _ hx2 HFl.out.1) (Rs.ext RB.ext _ _ _ _ hx2 HFl.out.2))
  have HJ := Lib.hid (And.intro (Rs.ext RI.ext _ _ _ _ hx2 HJ.out.1) (RRs.ext _ _ _ _ hx2 HJ.out.2))
  have HRu := Lib.hid (RRec.ext _ _ _ _ hx2 HRu.out)
  have HRx := Lib.hid (RRec.ext _ _ _ _ hx2 HRx.out)
  obtain ⟨Xy, hXy⟩ : ∃ X, w20.heap.size = X := ⟨_, rfl⟩
  rw [hXy] at hci hcb
  try rw [hXy]
  have HRy : Hid (RRec w21 (.agg #[.int .i64 0, .slice (some ⟨Xy, 0, none⟩) 4 4, .slice (some ⟨Xy + 1, 0, none⟩) 4 4]) ⟨0, [1, 3, 5, 6], [2, 12, 4, 1]⟩) := Lib.hid ⟨_, _, rfl, rs_lit (l := [1, 3, 5, 6]) hci rfl (by decide), rb_lit (l := [2, 12, 4, 1]) hcb (by decide)⟩
  clear hci hcb hx hx2 hXy
  have hxa : Ext w21 (w21.alloc (.cells #[.int .i64 0, .slice (some ⟨Xu, 0, none⟩) 4 4, .slice (some ⟨Xu + 1, 0, none⟩) 4 4, .int .i64 0, .slice (some ⟨Xx, 0, none⟩) 4 4, .slice (some ⟨Xx + 1, 0, none⟩) 4 4, .int .i64 0, .slice (some ⟨Xy, 0, none⟩) 4 4, .slice (some ⟨Xy + 1, 0, none⟩) 4 4] 30)) := (Ext.refl _).alloc _
  have hlit : RRs (w21.alloc (.cells #[.int .i64 0, .slice (some ⟨Xu, 0, none⟩) 4 4, .slice (some ⟨Xu + 1, 0, none⟩) 4 4, .int .i64 0, .slice (some ⟨Xx, 0, none⟩) 4 4, .slice (some ⟨Xx + 1, 0, none⟩) 4 4, .int .i64 0, .slice (some ⟨Xy, 0, none⟩) 4 4, .slice (some ⟨Xy + 1, 0, none⟩) 4 4] 30)) (.slice (some ⟨w21.heap.size, 0, none⟩) 3 3) [⟨0, [1, 2, 3, 6], [2, 4, 8, 1]⟩, ⟨0, [1, 2, 5, 6], [2, 12, 8, 1]⟩, ⟨0, [1, 3, 5, 6], [2, 12, 4, 1]⟩] := rrs_lit (l := [(⟨0, [1, 2, 3, 6], [2, 4, 8, 1]⟩, .slice (some ⟨Xu, 0, none⟩) 4 4, .slice (some ⟨Xu + 1, 0, none⟩) 4 4), (⟨0, [1, 2, 5, 6], [2, 12, 8, 1]⟩, .slice (some ⟨Xx, 0, none⟩) 4 4, .slice (some ⟨Xx + 1, 0, none⟩) 4 4), (⟨0, [1, 3, 5, 6], [2, 12, 4, 1]⟩, .slice (some ⟨Xy, 0, none⟩) 4 4, .slice (some ⟨Xy + 1, 0, none⟩) 4 4)]) (cells_new w21 #[.int .i64 0, .slice (some ⟨Xu, 0, none⟩) 4 4, .slice (some ⟨Xu + 1, 0, none⟩) 4 4, .int .i64 0, .slice (some ⟨Xx, 0, none⟩) 4 4, .slice (some ⟨Xx + 1, 0, none⟩) 4 4, .int .i64 0, .slice (some ⟨Xy, 0, none⟩) 4 4, .slice (some ⟨Xy + 1, 0, none⟩) 4 4] 30) (fun y hy => by
    simp only [List.mem_cons, List.not_mem_nil, or_false] at hy
    rcases hy with rfl | rfl | rfl
    · exact rec_rows (RRec.ext _ _ _ _ hxa HRu.out)
    · exact rec_rows (RRec.ext _ _ _ _ hxa HRx.out)
    · exact rec_rows (RRec.ext _ _ _ _ hxa HRy.out)
    ) (by simp)
  go_upto_region 13 with fail
  have HFAR := Lib.hid hlit
  have hcf := cells_new w21 #[.int .i64 0, .slice (some ⟨Xu, 0, none⟩) 4 4, .slice (some ⟨Xu + 1, 0, none⟩) 4 4, .int .i64 0, .slice (some ⟨Xx, 0, none⟩) 4 4, .slice (some ⟨Xx + 1, 0, none⟩) 4 4, .int .i64 0, .slice (some ⟨Xy, 0, none⟩) 4 4, .slice (some ⟨Xy + 1, 0, none⟩) 4 4] 30
  have HC0 : Hid (Cells (w21.alloc (.cells #[.int .i64 0, .slice (some ⟨Xu, 0, none⟩) 4 4, .slice (some ⟨Xu + 1, 0, none⟩) 4 4, .int .i64 0, .slice (some ⟨Xx, 0, none⟩) 4 4, .slice (some ⟨Xx + 1, 0, none⟩) 4 4, .int .i64 0, .slice (some ⟨Xy, 0, none⟩) 4 4, .slice (some ⟨Xy + 1, 0, none⟩) 4 4] 30)) w21.heap.size [.int .i64 0, .slice (some ⟨Xu, 0, none⟩) 4 4, .slice (some ⟨Xu + 1, 0, none⟩) 4 4]) := Lib.hid fun i v hi => hcf i v (by
    match i, hi with
    | 0, hi => exact hi
    | 1, hi => exact hi
    | 2, hi => exact hi
    | i + 3, hi => simp at hi)
  have HX := Lib.hid (HX.out.trans hxa)
  have HT := Lib.hid (HT.out.ext hxa)
  have HCa := Lib.hid (HCa.out.ext hxa)
  have HFa := Lib.hid (And.intro (Rs.ext RI.ext _ _ _ _ hxa HFa.out.1) (Rs.ext RB.ext _ _ _ _ hxa HFa.out.2))
  have HAL := Lib.hid (RRs.ext _ _ _ _ hxa HAL.out)
  have HCb := Lib.hid (HCb.out.ext hxa)
  have HFb := Lib.hid (And.intro (Rs.ext RI.ext _ _ _ _ hxa HFb.out.1) (Rs.ext RB.ext _ _ _ _ hxa HFb.out.2))
  have HCl := Lib.hid (HCl.out.ext hxa)
  have HFl := Lib.hid (And.intro (Rs.ext RI.ext _ _ _ _ hxa HFl.out.1) (Rs.ext RB.ext _ _ _ _ hxa HFl.out.2))
  have HJ := Lib.hid (And.intro (Rs.ext RI.ext _ _ _ _ hxa HJ.out.1) (RRs.ext _ _ _ _ hxa HJ.out.2))
  have HRu := Lib.hid (RRec.ext _ _ _ _ hxa HRu.out)
  have HRx := Lib.hid (RRec.ext _ _ _ _ hxa HRx.out)
  have HRy := Lib.hid (RRec.ext _ _ _ _ hxa HRy.out)
  obtain ⟨XF, hXF⟩ : ∃ X, w21.heap.size = X := ⟨_, rfl⟩
  rw [hXF] at HFAR HC0
  try rw [hXF]
  obtain ⟨ws, hws⟩ : ∃ x, w21.alloc (.cells #[.int .i64 0, .slice (some ⟨Xu, 0, none⟩) 4 4, .slice (some ⟨Xu + 1, 0, none⟩) 4 4, .int .i64 0, .slice (some ⟨Xx, 0, none⟩) 4 4, .slice (some ⟨Xx + 1, 0, none⟩) 4 4, .int .i64 0, .slice (some ⟨Xy, 0, none⟩) 4 4, .slice (some ⟨Xy + 1, 0, none⟩) 4 4] 30) = x := ⟨_, rfl⟩
  rw [hws] at HFAR HC0 HX HT HCa HFa HAL HCb HFb HCl HFl HJ HRu HRx HRy ⊢
  clear hcf hlit hxa hws hXF
  refine wp_atEnd' (san_near Qa Qb Ql XF cL LA FAa CAa FAb CAb FAl CAl (some ⟨Xu, 0, none⟩) (some ⟨Xu + 1, 0, none⟩) fca cca fcb ccb fcl ccl 4 4 ws HCa.out HCb.out HCl.out HC0.out ⟨_, _, rfl, HFa.out.1, HFa.out.2⟩ ⟨_, _, rfl, HFb.out.1, HFb.out.2⟩ ⟨_, _, rfl, HFl.out.1, HFl.out.2⟩ HRu.out HAL.out HFAR.out _ _ _ _ _ _ _ _ _ _ _ _ _ _ _ _ _ _ _ _ _ _ _ _ _ _ _ _ _ _ _ _ _ _ _ _ _ _ _ _ _ _ _ _ _ _ _ _ _ _ _ _ _ _ _ _ _ _ _ _ _ _ _ _ _ _ _ _ _ _ _ _ _ _ _ _ _ _ _ _ _ _ _ _ _ _ _ _ _ _ _ _ _ _ _ _ _ _ _ _ _ _ _ _ _ _ _ _ _ _ _ _ _ _ _ _ _ _ _ _ _ _ _ _ _ _ _ _ _ _ _ _ _ _ _ _ _ _ _ _ _ _ _ _ _ _ _ _ _ _ _ _ _ _ _ _ _ _ _ _ _ _ _ _ _ _ _ _ _ _ _ ?_)
  rintro u121 u122 u123 u124 u125 u126 u127 u128 u129 u130 u131 u132 u133 u134 u135 u136 u137 u138 u139 u140 u141 u142 u143 u144 wx hx
  have HX := Lib.hid (HX.out.trans hx)
  have HT := Lib.hid (HT.out.ext hx)
  have HCa := Lib.hid (HCa.out.ext hx)
  have HFa := Lib.hid (And.intro (Rs.ext RI.ext _ _ _ _ hx HFa.out.1) (Rs.ext RB.ext _ _ _ _ hx HFa.out.2))
  have HJ := Lib.hid (And.intro (Rs.ext RI.ext _ _ _ _ hx HJ.out.1) (RRs.ext _ _ _ _ hx HJ.out.2))
  clear hx
  go_wp2_with fail
  have hxa : Ext wx (wx.alloc (.cells #[.int .i64 1, .int .i64 3, .int .i64 4, .int .i64 5] 3)) := (Ext.refl _).alloc _
  have htx : Rs RI (wx.alloc (.cells #[.int .i64 1, .int .i64 3, .int .i64 4, .int .i64 5] 3)) (.slice (some ⟨wx.heap.size, 0, none⟩) 4 4) [1, 3, 4, 5] := rs_lit (l := [1, 3, 4, 5]) (cells_new wx #[.int .i64 1, .int .i64 3, .int .i64 4, .int .i64 5] 3) rfl (by decide)
  refine (sList8_any [1, 3, 4, 5] [1, 3, 4, 5] _ _ _ (Rs.ext RI.ext _ _ _ _ hxa HJ.out.1) htx).mono ?_
  rintro e wa ⟨rfl, hx⟩
  rw [decide_eq_true rfl]
  have hx2 := Ext.trans hxa hx
  have HX := Lib.hid (HX.out.trans hx2)
  have HT := Lib.hid (HT.out.ext hx2)
  have HCa := Lib.hid (HCa.out.ext hx2)
  have HFa := Lib.hid (And.intro (Rs.ext RI.ext _ _ _ _ hx2 HFa.out.1) (Rs.ext RB.ext _ _ _ _ hx2 HFa.out.2))
  have HJ := Lib.hid (And.intro (Rs.ext RI.ext _ _ _ _ hx2 HJ.out.1) (RRs.ext _ _ _ _ hx2 HJ.out.2))
  clear hxa htx hx hx2
  go_wp2_with fail
  refine (recipe8_any 0 _ _ 2 2 2 2 _ _ _ rfl rfl).mono ?_
  rintro e w22 ⟨rfl, hx⟩
  have hci := (cells_new wa #[.int .i64 1, .int .i64 4] 3).ext (((Ext.refl _).alloc (.cells #[.int .u8 1, .int .u8 1] 5)).trans hx)
  have hcb := (cells_new (wa.alloc (.cells #[.int .i64 1, .int .i64 4] 3)) #[.int .u8 1, .int .u8 1] 5).ext hx
  rw [World.size_alloc] at hcb
  have hx2 := Ext.trans ((((Ext.refl wa).alloc _).alloc _)) hx
  have HX := Lib.hid (HX.out.trans hx2)
  have HT := Lib.hid (HT.out.ext hx2)
  have HCa := Lib.hid (HCa.out.ext hx2)
  have HFa := Lib.hid (And.intro (Rs.ext RI.ext _ _ _ _ hx2 HFa.out.1) (Rs.ext RB.ext _ _ _ _ hx2 HFa.out.2))
  have HJ := Lib.hid (And.intro (Rs.ext RI.ext _ _ _ _ hx2 HJ.out.1) (RRs.ext _ _ _ _ hx2 HJ.out.2))
  obtain ⟨Xv, hXv⟩ : ∃ X, wa.heap.size = X := ⟨_, rfl⟩
  rw [hXv] at hci hcb
  try rw [hXv]
  have HRv : Hid (RRec w22 (.agg #[.int .i64 0, .slice (some ⟨Xv, 0, none⟩) 2 2, .slice (some ⟨Xv + 1, 0, none⟩) 2 2]) ⟨0, [1, 4], [1, 1]⟩) := Lib.hid ⟨_, _, rfl, rs_lit (l := [1, 4]) hci rfl (by decide), rb_lit (l := [1, 1]) hcb (by decide)⟩
  clear hci hcb hx hx2 hXv
  go_wp2_with fail
  refine (recipe8_any 2 _ _ 2 2 2 2 _ _ _ rfl rfl).mono ?_
  rintro e w23 ⟨rfl, hx⟩
  have hci := (cells_new w22 #[.int .i64 3, .int .i64 5] 3).ext (((Ext.refl _).alloc (.cells #[.int .u8 1, .int .u8 1] 5)).trans hx)
  have hcb := (cells_new (w22.alloc (.cells #[.int .i64 3, .int .i64 5] 3)) #[.int .u8 1, .int .u8 1] 5).ext hx
  rw [World.size_alloc] at hcb
  have hx2 := Ext.trans ((((Ext.refl w22).alloc _).alloc _)) hx
  have HX := Lib.hid (HX.out.trans hx2)
  have HT := Lib.hid (HT.out.ext hx2)
  have HCa := Lib.hid (HCa.out.ext hx2)
  have HFa := Lib.hid (And.intro (Rs.ext RI.ext _ _ _ _ hx2 HFa.out.1) (Rs.ext RB.ext _ _ _ _ hx2 HFa.out.2))
  have HJ := Lib.hid (And.intro (Rs.ext RI.ext _ _ _ _ hx2 HJ.out.1) (RRs.ext _ _ _ _ hx2 HJ.out.2))
  have HRv := Lib.hid (RRec.ext _ _ _ _ hx2 HRv.out)
  obtain ⟨Xt, hXt⟩ : ∃ X, w22.heap.size = X := ⟨_, rfl⟩
  rw [hXt] at hci hcb
  try rw [hXt]
  have HRt : Hid (RRec w23 (.agg #[.int .i64 2, .slice (some ⟨Xt, 0, none⟩) 2 2, .slice (some ⟨Xt + 1, 0, none⟩) 2 2]) ⟨2, [3, 5], [1, 1]⟩) := Lib.hid ⟨_, _, rfl, rs_lit (l := [3, 5]) hci rfl (by decide), rb_lit (l := [1, 1]) hcb (by decide)⟩
  clear hci hcb hx hx2 hXt
  go_wp2_with fail
  have hxa : Ext w23 (w23.alloc (.cells #[.int .i64 0, .slice (some ⟨Xv, 0, none⟩) 2 2, .slice (some ⟨Xv + 1, 0, none⟩) 2 2, .int .i64 2, .slice (some ⟨Xt, 0, none⟩) 2 2, .slice (some ⟨Xt + 1, 0, none⟩) 2 2] 30)) := (Ext.refl _).alloc _
  have hlit : RRs (w23.alloc (.cells #[.int .i64 0, .slice (some ⟨Xv, 0, none⟩) 2 2, .slice (some ⟨Xv + 1, 0, none⟩) 2 2, .int .i64 2, .slice (some ⟨Xt, 0, none⟩) 2 2, .slice (some ⟨Xt + 1, 0, none⟩) 2 2] 30)) (.slice (some ⟨w23.heap.size, 0, none⟩) 2 2) [⟨0, [1, 4], [1, 1]⟩, ⟨2, [3, 5], [1, 1]⟩] := rrs_lit (l := [(⟨0, [1, 4], [1, 1]⟩, .slice (some ⟨Xv, 0, none⟩) 2 2, .slice (some ⟨Xv + 1, 0, none⟩) 2 2), (⟨2, [3, 5], [1, 1]⟩, .slice (some ⟨Xt, 0, none⟩) 2 2, .slice (some ⟨Xt + 1, 0, none⟩) 2 2)]) (cells_new w23 #[.int .i64 0, .slice (some ⟨Xv, 0, none⟩) 2 2, .slice (some ⟨Xv + 1, 0, none⟩) 2 2, .int .i64 2, .slice (some ⟨Xt, 0, none⟩) 2 2, .slice (some ⟨Xt + 1, 0, none⟩) 2 2] 30) (fun y hy => by
    simp only [List.mem_cons, List.not_mem_nil, or_false] at hy
    rcases hy with rfl | rfl
    · exact rec_rows (RRec.ext _ _ _ _ hxa HRv.out)
    · exact rec_rows (RRec.ext _ _ _ _ hxa HRt.out)
    ) (by simp)
  refine (sSameAll_self [⟨0, [1, 4], [1, 1]⟩, ⟨2, [3, 5], [1, 1]⟩] _ _ _ (RRs.ext _ _ _ _ hxa HJ.out.2) hlit).mono ?_
  rintro e wb ⟨rfl, hx⟩
  have hx2 := Ext.trans hxa hx
  have HX := Lib.hid (HX.out.trans hx2)
  have HT := Lib.hid (HT.out.ext hx2)
  have HCa := Lib.hid (HCa.out.ext hx2)
  have HFa := Lib.hid (And.intro (Rs.ext RI.ext _ _ _ _ hx2 HFa.out.1) (Rs.ext RB.ext _ _ _ _ hx2 HFa.out.2))
  have HJ := Lib.hid (And.intro (Rs.ext RI.ext _ _ _ _ hx2 HJ.out.1) (RRs.ext _ _ _ _ hx2 HJ.out.2))
  have HRv := Lib.hid (RRec.ext _ _ _ _ hx2 HRv.out)
  have HRt := Lib.hid (RRec.ext _ _ _ _ hx2 HRt.out)
  clear hxa hlit hx hx2
  have q0 : wb.cell? ⟨Qa, 0, none⟩ = some (.int .i64 0) := HCa.out 0 _ rfl
  have q1 : wb.cell? ⟨Qa, 1, none⟩ = some (.slice FAa 2 fca) := HCa.out 1 _ rfl
  have q2 : wb.cell? ⟨Qa, 2, none⟩ = some (.slice CAa 2 cca) := HCa.out 2 _ rfl
  go_wp2_with fail
  refine (bCheck_any ⟨0, [1, 4], [1, 1]⟩ _ _ ⟨_, _, rfl, HFa.out.1, HFa.out.2⟩ (by decide)).mono ?_
  rintro e wc ⟨rfl, hx⟩
  rw [Rb.ex_apply.2.2.2]
  have HX := Lib.hid (HX.out.trans hx)
  clear hx q0 q1 q2
  go_wp2_with fail
  go_ret
  exact ⟨rfl, HX.out⟩
end Go.Proofs.YtdmljilcbndmfaaDoor

/- REBUILD JOINS AS SPECIFIED: the walk. -/
namespace Go.Proofs.YtdmljilcbndmfaaDoor
open Go.RowKit Go.Shelf
set_option maxHeartbeats 8000000 in
set_option maxRecDepth 100000 in
theorem law_joins (d gl lost : Int) (gs : List (List Int)) (G : Value) (w : World) (hT : Tab w) (hG : Rs (Rs RI) w G gs) (hn : gs.length ≤ 4611686018427387904) :
    Calls Tryd.prog 4 #[.agg #[.int .i64 d, G, .int .i64 gl], .int .i64 lost] w fun e w' => e = .returned (.bool true) ∧ Ext w w' := by
  obtain ⟨A, c, rfl, hl⟩ := hG.form
  obtain ⟨ng, hng⟩ : ∃ ng, gs.length = ng := ⟨_, rfl⟩
  have HN := Lib.hid hn
  rw [hng] at hG ⊢
  have hx0 := (Ext.refl w).alloc (.cells #[.int .i64 d, .slice A ng c, .int .i64 gl] 24)
  have HX := Lib.hid hx0
  have HT := Lib.hid (hT.ext hx0)
  have HG := Lib.hid (Rs.ext (Rs.ext RI.ext) _ _ _ _ hx0 hG)
  have HB := Lib.hid (cells_new w #[.int .i64 d, .slice A ng c, .int .i64 gl] 24)
  have hm := few8_any d gl 8 gs _ _ HG.out HN.out
  obtain ⟨fw, hfw⟩ : ∃ fw, Rb.fewC d gl gs 8 = fw := ⟨_, rfl⟩
  rw [hfw] at hm
  have HM := Lib.hid hm
  clear hT hG hx0 hn hm hfw hng hl
  go_enter Tryd.func4, Tryd.ntmps4
  go_wp2_with fail
  refine HM.out.mono ?_
  clear HM
  rintro e w1 ⟨rfl, hx1⟩
  obtain ⟨BB, hBB⟩ : ∃ x, w.heap.size = x := ⟨_, rfl⟩
  rw [hBB] at HB ⊢
  clear hBB
  replace HX := Lib.hid ((HX.out).trans hx1)
  replace HT := Lib.hid ((HT.out).ext hx1)
  replace HG := Lib.hid (Rs.ext (Rs.ext RI.ext) _ _ _ _ hx1 (HG.out))
  replace HB := Lib.hid ((HB.out).ext hx1)
  clear hx1
  cases fw with
  | false =>
    go_wp2_with fail
    refine (sanity_any w1 HT.out).mono ?_
    rintro e w901 ⟨rfl, hxs⟩
    have HXS := Lib.hid (HX.out.trans hxs)
    clear hxs
    go_wp2_with fail
    go_ret
    exact ⟨rfl, HXS.out⟩
  | true =>
    have b0 : w1.cell? ⟨BB, 0, none⟩ = some (.int .i64 d) := HB.out 0 _ rfl
    have b1 : w1.cell? ⟨BB, 1, none⟩ = some (.slice A ng c) := HB.out 1 _ rfl
    have b2 : w1.cell? ⟨BB, 2, none⟩ = some (.int .i64 gl) := HB.out 2 _ rfl
    go_wp2_with fail
    clear b0 b1 b2
    refine (bJoint_any d gl gs lost _ _ HT.out HG.out).mono ?_
    rintro e w2 ⟨v1, v2, rfl, hv1, hv2, hx⟩
    obtain ⟨eJ, heJ⟩ : ∃ e, Rb.jointE d gl gs lost = e := ⟨_, rfl⟩
    rw [heJ]
    obtain ⟨xJ, hxJ⟩ : ∃ x, Rb.jointR d gl gs lost = x := ⟨_, rfl⟩
    rw [hxJ] at hv1 hv2
    obtain ⟨fs, hfs⟩ : ∃ f, (xJ.map Prod.fst).getD [] = f := ⟨_, rfl⟩
    obtain ⟨rs, hrs⟩ : ∃ f, (xJ.map Prod.snd).getD [] = f := ⟨_, rfl⟩
    rw [hfs] at hv1
    rw [hrs] at hv2
    obtain ⟨V1, c1, rfl, hj1⟩ := hv1.form
    obtain ⟨V2, c2, rfl, hj2⟩ := hv2.form
    clear hj1 hj2
    obtain ⟨n1, hn1⟩ : ∃ n, fs.length = n := ⟨_, rfl⟩
    obtain ⟨n2, hn2⟩ : ∃ n, rs.length = n := ⟨_, rfl⟩
    rw [hn1] at hv1 ⊢
    rw [hn2] at hv2 ⊢
    have HJ := Lib.hid (And.intro heJ (And.intro hxJ (And.intro hfs (And.intro hrs (And.intro hn1 hn2)))))
    clear heJ hxJ hfs hrs hn1 hn2
    replace HX := Lib.hid ((HX.out).trans hx)
    replace HT := Lib.hid ((HT.out).ext hx)
    replace HG := Lib.hid (Rs.ext (Rs.ext RI.ext) _ _ _ _ hx (HG.out))
    replace HB := Lib.hid ((HB.out).ext hx)
    clear hx
    have HV1 := Lib.hid hv1
    have HV2 := Lib.hid hv2
    clear hv1 hv2
    have b0 : w2.cell? ⟨BB, 0, none⟩ = some (.int .i64 d) := HB.out 0 _ rfl
    have b1 : w2.cell? ⟨BB, 1, none⟩ = some (.slice A ng c) := HB.out 1 _ rfl
    have b2 : w2.cell? ⟨BB, 2, none⟩ = some (.int .i64 gl) := HB.out 2 _ rfl
    go_wp2_with fail
    clear b0 b1 b2
    have hjo := sJoint_any d gl gs lost _ w2 HG.out HN.out
    rw [HJ.out.1, HJ.out.2.1] at hjo
    refine hjo.mono ?_
    clear hjo
    rintro e w3 ⟨u1, u2, rfl, hv1, hv2, hx⟩
    rw [HJ.out.2.2.1] at hv1
    rw [HJ.out.2.2.2.1] at hv2
    obtain ⟨U1, k1, rfl, hj1⟩ := hv1.form
    obtain ⟨U2, k2, rfl, hj2⟩ := hv2.form
    clear hj1 hj2
    rw [HJ.out.2.2.2.2.1] at hv1 ⊢
    rw [HJ.out.2.2.2.2.2] at hv2 ⊢
    have hxa : Ext w3 (w3.alloc (.cells #[.slice U1 n1 k1, .slice U2 n2 k2, .int .i64 eJ] 51)) := (Ext.refl w3).alloc _
    have hx4 := hx.trans hxa
    replace HX := Lib.hid ((HX.out).trans hx4)
    replace HT := Lib.hid ((HT.out).ext hx4)
    replace HG := Lib.hid (Rs.ext (Rs.ext RI.ext) _ _ _ _ hx4 (HG.out))
    replace HB := Lib.hid ((HB.out).ext hx4)
    replace HV1 := Lib.hid (Rs.ext RI.ext _ _ _ _ hx4 (HV1.out))
    replace HV2 := Lib.hid (RRs.ext _ _ _ _ hx4 (HV2.out))
    clear hx4
    have HU1 := Lib.hid (Rs.ext RI.ext _ _ _ _ hxa hv1)
    have HU2 := Lib.hid (RRs.ext _ _ _ _ hxa hv2)
    have HQ := Lib.hid (cells_new w3 #[.slice U1 n1 k1, .slice U2 n2 k2, .int .i64 eJ] 51)
    clear hx hxa hv1 hv2
    go_upto_region 5 with fail
    obtain ⟨QQ, hQ⟩ : ∃ x, w3.heap.size = x := ⟨_, rfl⟩
    rw [hQ] at HQ
    try rw [hQ]
    obtain ⟨w4, hw⟩ : ∃ x, w3.alloc (.cells #[.slice U1 n1 k1, .slice U2 n2 k2, .int .i64 eJ] 51) = x := ⟨_, rfl⟩
    rw [hw] at HX HT HG HB HV1 HV2 HU1 HU2 HQ ⊢
    clear hw
    clear hQ
    have he1 : (eJ == eJ) = true := by simp
    go_wp2_with fail
    refine (sanity_any w4 HT.out).mono ?_
    rintro e w6 ⟨rfl, hx6⟩
    replace HX := Lib.hid ((HX.out).trans hx6)
    replace HT := Lib.hid ((HT.out).ext hx6)
    replace HG := Lib.hid (Rs.ext (Rs.ext RI.ext) _ _ _ _ hx6 (HG.out))
    replace HB := Lib.hid ((HB.out).ext hx6)
    replace HV1 := Lib.hid (Rs.ext RI.ext _ _ _ _ hx6 (HV1.out))
    replace HV2 := Lib.hid (RRs.ext _ _ _ _ hx6 (HV2.out))
    replace HU1 := Lib.hid (Rs.ext RI.ext _ _ _ _ hx6 (HU1.out))
    replace HU2 := Lib.hid (RRs.ext _ _ _ _ hx6 (HU2.out))
    replace HQ := Lib.hid ((HQ.out).ext hx6)
    clear hx6
    have q0 : w6.cell? ⟨QQ, 0, none⟩ = some (.slice U1 n1 k1) := HQ.out 0 _ rfl
    have q1 : w6.cell? ⟨QQ, 1, none⟩ = some (.slice U2 n2 k2) := HQ.out 1 _ rfl
    have q2 : w6.cell? ⟨QQ, 2, none⟩ = some (.int .i64 eJ) := HQ.out 2 _ rfl
    go_wp2_with fail
    clear q0 q1 q2
    refine (sList8_any fs fs _ _ w6 HV1.out HU1.out).mono ?_
    rintro e w7 ⟨rfl, hx7⟩
    rw [decide_eq_true (rfl : fs = fs)]
    replace HX := Lib.hid ((HX.out).trans hx7)
    replace HT := Lib.hid ((HT.out).ext hx7)
    replace HG := Lib.hid (Rs.ext (Rs.ext RI.ext) _ _ _ _ hx7 (HG.out))
    replace HB := Lib.hid ((HB.out).ext hx7)
    replace HV1 := Lib.hid (Rs.ext RI.ext _ _ _ _ hx7 (HV1.out))
    replace HV2 := Lib.hid (RRs.ext _ _ _ _ hx7 (HV2.out))
    replace HU1 := Lib.hid (Rs.ext RI.ext _ _ _ _ hx7 (HU1.out))
    replace HU2 := Lib.hid (RRs.ext _ _ _ _ hx7 (HU2.out))
    replace HQ := Lib.hid ((HQ.out).ext hx7)
    clear hx7
    have q0 : w7.cell? ⟨QQ, 0, none⟩ = some (.slice U1 n1 k1) := HQ.out 0 _ rfl
    have q1 : w7.cell? ⟨QQ, 1, none⟩ = some (.slice U2 n2 k2) := HQ.out 1 _ rfl
    have q2 : w7.cell? ⟨QQ, 2, none⟩ = some (.int .i64 eJ) := HQ.out 2 _ rfl
    go_wp2_with fail
    clear q0 q1 q2
    refine (sSameAll_any rs rs _ _ w7 HV2.out HU2.out).mono ?_
    rintro e w8 ⟨rfl, hx8⟩
    rw [decide_eq_true (rfl : rs = rs)]
    have HX8 := Lib.hid (HX.out.trans hx8)
    clear hx8
    go_wp2_with fail
    go_ret
    exact ⟨rfl, HX8.out⟩
end Go.Proofs.YtdmljilcbndmfaaDoor

/- ARGUMENTS that are codes read as such. -/
namespace Go.Proofs.YtdmljilcbndmfaaDoor
open Go.ChangeShapes Go.WideShapes Go.ChangeAt Go.RowKit Go.ChangeMaps Go.Deep
variable {H : Type} {enc : TypeId × Value → H} {W : World} {base : Nat}
theorem list_getD {l : List Int} {k : Nat} (h : k < l.length) : l.getD k 0 = l[k] := by rw [List.getD_eq_getElem?_getD, List.getElem?_eq_getElem h]; rfl
theorem read_rows {fuel : Nat} {v : Value} {x : DataW H × List MemPlace} (h : DataW.trod enc Tryd.prog W base (fun _ => true) true fuel 22 [v] = some x) : ∃ l, Rs (Rs RI) W v l := by
  rcases open_int_rows Tryd.underlying22 Tryd.underlying27 Tryd.underlying3 (by kernel_rfl) (by kernel_rfl) h with ⟨hcs, _⟩ | ⟨a, len, cap, A, L, C, Z, hcs, _, hl, hm, _, hx⟩
  · injection hcs with hcs _
    subst hcs
    exact ⟨[], none, 0, rfl, by simp, fun i x h => by simp at h⟩
  · injection hcs with hcs _
    subst hcs
    refine ⟨(List.range len).map fun r => (Z r).take (L r), some a, cap, by simp, by simp; unfold maxLen at hm; omega, fun i y hi => ?_⟩
    have hi1 : i < len := by have := (List.getElem?_eq_some_iff.1 hi).1; simpa using this
    have e : y = (Z i).take (L i) := by
      have := (List.getElem?_eq_some_iff.1 hi).2
      rw [← this]; simp
    subst e
    obtain ⟨h1, h2, h3, h4, h5, h6, h7⟩ := hx i (by omega)
    refine ⟨a, _, rfl, h1, A i, C i, ?_, ?_, fun k z hk => ?_⟩
    · rw [List.length_take]; congr 1; omega
    · rw [List.length_take]; unfold maxLen at h3; omega
    · have hk1 : k < ((Z i).take (L i)).length := (List.getElem?_eq_some_iff.1 hk).1
      have hk2 : k < (Z i).length := by rw [List.length_take] at hk1; omega
      have hk3 : k < C i := by omega
      have e : z = (Z i)[k] := by
        have := (List.getElem?_eq_some_iff.1 hk).2
        rw [← this, List.getElem_take]
      subst e
      have hb := bounds_i64 (h5 _ (List.getElem_mem hk2))
      cases hA : A i with
      | none => have := h6 hA; omega
      | some b =>
        have h8 := (h7 b hA).2 k hk3
        rw [list_getD hk2] at h8
        exact ⟨b, _, rfl, h8, rfl, by omega, by omega⟩
theorem cellsRows : Tryd.prog.cellsOf 22 = 1 := by kernel_rfl
theorem cellsInt : Tryd.prog.cellsOf 3 = 1 := by kernel_rfl
theorem array3 {α : Type} {cs : Array α} (h : cs.size = 3) : ∃ c0 c1 c2, cs = #[c0, c1, c2] := by
  obtain ⟨l⟩ := cs
  match l, h with
  | [c0, c1, c2], _ => exact ⟨c0, c1, c2, rfl⟩
end Go.Proofs.YtdmljilcbndmfaaDoor

/- ARGUMENTS of law 08: losses. -/
namespace Go.Proofs.YtdmljilcbndmfaaDoor
open Go.ChangeShapes Go.WideShapes Go.ChangeAt Go.RowKit Go.ChangeMaps Go.Deep
variable {H : Type} {enc : TypeId × Value → H} {W : World} {base : Nat}
theorem sized_part {P : Program} {ts : List TypeId} {ds : List (DataW H)} (h : (DataW.weightsEach P ts ds).all (· ≤ reachBytes) = true) {j : Nat} {t : TypeId} {d : DataW H} (ht : ts[j]? = some t) (hd : ds[j]? = some d) : ∀ n ∈ d.weights P t, n ≤ reachBytes := fun n hn => by
  have := List.all_eq_true.1 h n (DataW.weights_mem_each ht hd n hn)
  simpa using this
theorem bytesInts : Tryd.prog.bytesOf 27 = 24 := by kernel_rfl
/-- The form's own reach, for a list of lists. -/
theorem sized_rows {fuel : Nat} {v : Value} {x : DataW H × List MemPlace} (h : DataW.trod enc Tryd.prog W base (fun _ => true) true fuel 22 [v] = some x) (hw : ∀ n ∈ x.1.weights Tryd.prog 22, n ≤ reachBytes) {l : List (List Int)} (hl : Rs (Rs RI) W v l) : l.length ≤ 4611686018427387904 := by
  obtain ⟨A, c, rfl, _⟩ := hl.form
  rcases open_int_rows Tryd.underlying22 Tryd.underlying27 Tryd.underlying3 (by kernel_rfl) (by kernel_rfl) h with ⟨hcs, _⟩ | ⟨a, len, cap, A', L, C, Z, hcs, _, _, hm, hx, _⟩
  · injection hcs with hcs _
    injection hcs with _ h2 _
    omega
  · injection hcs with hcs _
    injection hcs with _ h2 _
    subst hx
    have := hw ((len + (cap - len)) * 24) (by simp only [DataW.weights, Tryd.underlying22, bytesInts, List.length_map, List.length_range, List.mem_cons, true_or])
    unfold reachBytes at this
    omega
set_option maxRecDepth 100000 in
/-- A code, with the number of its groups. -/
theorem trod_code {m : Nat} {c0 c1 c2 : Value} {y : DataW H × List MemPlace} (hf : DataW.trod enc Tryd.prog W base (fun _ => true) true m 24 [c0, c1, c2] = some y) (hw : ∀ n ∈ y.1.weights Tryd.prog 24, n ≤ reachBytes) :
    ∃ (a0 a2 : Int) (gs : List (List Int)), c0 = .int .i64 a0 ∧ c2 = .int .i64 a2 ∧ Rs (Rs RI) W c1 gs ∧ gs.length ≤ 4611686018427387904 := by
  obtain ⟨zs, m, _, hy, _, hlen2, hz⟩ := DataW.trod_struct Tryd.underlying24 hf
  obtain ⟨z0, z1, z2, rfl⟩ : ∃ z0 z1 z2, zs = [z0, z1, z2] := by
    match zs, hlen2 with
    | [z0, z1, z2], _ => exact ⟨z0, z1, z2, rfl⟩
  subst hy
  have g0 : DataW.trod enc Tryd.prog W base (fun _ => true) true m 3 [c0] = some z0 := by
    have := hz 0 _ rfl
    simpa [Value.cells, cellsInt] using this
  have g1 : DataW.trod enc Tryd.prog W base (fun _ => true) true m 22 [c1] = some z1 := by
    have := hz 1 _ rfl
    simpa [Value.cells, cellsRows] using this
  have g2 : DataW.trod enc Tryd.prog W base (fun _ => true) true m 3 [c2] = some z2 := by
    have := hz 2 _ rfl
    simpa [Value.cells, cellsInt] using this
  obtain ⟨gs, h1⟩ := read_rows g1
  obtain ⟨a0, ha0, _, w0⟩ := DataW.trod_int Tryd.underlying3 g0
  obtain ⟨a2, ha2, _, w2⟩ := DataW.trod_int Tryd.underlying3 g2
  injection ha0 with ha0 _
  injection ha2 with ha2 _
  refine ⟨a0, a2, gs, ha0, ha2, h1, sized_rows g1 (fun n hn => hw n ?_) h1⟩
  simp only [DataW.weights, Tryd.underlying24]
  exact DataW.weights_mem_each (j := 1) rfl rfl n hn
set_option maxRecDepth 100000 in
/-- A code as an argument of its own. -/
theorem open_code_sized {b0 : Nat} {v : Value} {d : DataW H} {ps : List MemPlace} (hval : Value.okWide Tryd.prog W .any b0 24 v) (hd : DataW.Trod enc Tryd.prog W base (fun _ => true) true 24 v d ps) (hw : ∀ n ∈ d.weights Tryd.prog 24, n ≤ reachBytes) :
    ∃ (a0 a2 : Int) (G : Value) (gs : List (List Int)), v = .agg #[.int .i64 a0, G, .int .i64 a2] ∧ Rs (Rs RI) W G gs ∧ gs.length ≤ 4611686018427387904 := by
  obtain ⟨cs, rfl, hsz⟩ := okWide_struct Tryd.underlying24 hval
  obtain ⟨c0, c1, c2, rfl⟩ := array3 (hsz.trans (by kernel_rfl))
  obtain ⟨fuel, hf⟩ := hd
  have hf2 : DataW.trod enc Tryd.prog W base (fun _ => true) true fuel 24 [c0, c1, c2] = some (d, ps) := by simpa [Value.cells] using hf
  obtain ⟨a0, a2, gs, rfl, rfl, h1, h2⟩ := trod_code hf2 hw
  exact ⟨a0, a2, c1, gs, rfl, h1, h2⟩
end Go.Proofs.YtdmljilcbndmfaaDoor
