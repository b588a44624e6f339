/- Part of the proof: see the last text. -/
import Derived.Test.YtakegkongmnekaaGreatDoorP26
set_option maxRecDepth 20000
set_option linter.unusedVariables false
set_option linter.unusedSimpArgs false
namespace Go.Proofs.YtakegkongmnekaaGreatDoor
open Go.RowKit
open Vm
section
variable {G : Nat → Vm.V} {L : List Lx.TA} {n : Nat}
theorem zo8 {L : List Lx.T} {p : Nat} {k : Int} {s t : List UInt8} (h : Ex.isT L p k s = true) (hs : t ≠ s) : Ex.isT L p k t = false := by
 unfold Ex.isT at *
 split at h
 ·rename_i u hu
  simp only [Bool.and_eq_true, beq_iff_eq] at h
  rw [h.2]
  simp [Ne.symm hs]
 ·cases h
set_option maxHeartbeats 16000000 in
theorem zkA (hL : L.length ≤ 999999) (h4 : Lvl G L 135 4 n) (hls : ∀ (m p : Nat) (r : Ex.R), m ≤ n → p ≤ L.length → Ex.run (L.map (·.1)) m (.list []) p = some r → zaN Tryz.prog G 137 [.ptr 0 0] [prsE L p] (listM L r)) : Lvl G L 119 3 (n + 1) := by
 intro m p r hm hp hr
 cases m with
 | zero => cases hr
 | succ m =>
 rw [Ex.run] at hr
 refine zaM (zdC G) (by simp) (by simp [L_expr_parser_comparison]) ?_
 show wpC _ _ 1 (panK 1 _) _ (retK 1 _ _) (mkX [(0, _)] [(0, _)])
 simp only [L_expr_parser_comparison, zs, za, zl, zc, zE, prsE]
 have x0 := zx; have hpr : ∀ q f, (prsE L q).on f = true := fun _ _ => rfl
 refine wk ?_
 rcases Ex.then1_some hr with ⟨a, q, h1, h2⟩ | ⟨q, h1, rfl⟩
 rotate_left
 ·have hc := h4 m p _ (by omega) hp h1
  clear hr h1
  refine cp 0 (hc) ?_
  rintro o e' ⟨rfl, he, hq⟩
  simp only [List.cons.injEq, and_true] at he
  subst he
  refine pq ?_
  exact ⟨rfl, rfl, hq⟩
 have hc := h4 m p _ (by omega) hp h1
 clear hr h1
 refine cp 0 (hc) ?_
 rintro o e' ⟨rfl, he, hq⟩
 simp only [List.cons.injEq, and_true] at he
 subst he
 show wpR _ _ _ _ _ (X.put _ _ _ [(0, prsE L _)])
 refine wk ?_
 cases hone : Ex.oneOf (L.map (·.1)) q 4 Ex.cmps with
 | some op =>
  rw [hone] at h2; try dsimp only at h2
  have hlt : q < L.length := by simpa using (Ex.zaB hone).1
  refine kw (zjx hL hq (by decide) hone) ?_
  rcases Ex.then1_some h2 with ⟨e2, q2, hz, h5⟩ | ⟨q2, hz, rfl⟩
  ·have hcq2 := h4 m (q + 1) _ (by omega) hlt hz
   clear hz h2
   refine cp 0 (hcq2) ?_
   rintro o e' ⟨rfl, he, hq2⟩
   simp only [List.cons.injEq, and_true] at he
   subst he
   show wpR _ _ _ _ _ (X.put _ _ _ [(0, prsE L _)])
   refine wk ?_
   cases h5
   refine rt ?_
   exact ⟨(by first | rfl | (simp [expC, Ex.eUn, Ex.eBin, Ex.eIs, Ex.eIn, Ex.eBtw, Ex.zaY, Ex.eVal, Ex.eCol, Ex.eCase, Ex.eFn, Ex.eAgg, Ex.za0, Ex.v0]; first | done | rfl | exact ⟨rfl, rfl⟩)), rfl, hq2⟩
  ·have hcq2 := h4 m (q + 1) _ (by omega) hlt hz
   clear hz h2
   refine cp 0 (hcq2) ?_
   rintro o e' ⟨rfl, he, hq2⟩
   simp only [List.cons.injEq, and_true] at he
   subst he
   refine pq ?_
   exact ⟨rfl, rfl, hq2⟩
 | none =>
  rw [hone] at h2; try dsimp only at h2
  refine kw (zlt hL hq (by decide) hone) ?_
  cases hi : Ex.isT (L.map (·.1)) q 2 Ex.wIs
  rotate_left
  ·rw [if_pos hi] at h2; try dsimp only at h2
   have hlt : q < L.length := by simpa using Ex.isT_lt hi
   refine kw (za1 hL hi) ?_
   cases hn : Ex.isT (L.map (·.1)) (q + 1) 2 Ex.wNot
   ·rw [hn] at h2; try dsimp only at h2
    rw [if_neg (by simp)] at h2
    refine kw (zaP hL hlt hn) ?_
    rcases Ex.then1_some h2 with ⟨e2, q2, hz, h5⟩ | ⟨q2, hz, rfl⟩
    ·have hcq2 := h4 m (q + 1) _ (by omega) hlt hz
     clear hz h2
     refine cp 0 (hcq2) ?_
     rintro o e' ⟨rfl, he, hq2⟩
     simp only [List.cons.injEq, and_true] at he
     subst he
     show wpR _ _ _ _ _ (X.put _ _ _ [(0, prsE L _)])
     refine wk ?_
     cases h5
     refine rt ?_
     exact ⟨(by first | rfl | (simp [expC, Ex.eUn, Ex.eBin, Ex.eIs, Ex.eIn, Ex.eBtw, Ex.zaY, Ex.eVal, Ex.eCol, Ex.eCase, Ex.eFn, Ex.eAgg, Ex.za0, Ex.v0]; first | done | rfl | exact ⟨rfl, rfl⟩)), rfl, hq2⟩
    ·have hcq2 := h4 m (q + 1) _ (by omega) hlt hz
     clear hz h2
     refine cp 0 (hcq2) ?_
     rintro o e' ⟨rfl, he, hq2⟩
     simp only [List.cons.injEq, and_true] at he
     subst he
     refine pq ?_
     exact ⟨rfl, rfl, hq2⟩
   ·rw [hn] at h2; try dsimp only at h2
    have hlt0 : q + 1 < L.length := by simpa using Ex.isT_lt hn
    rw [if_pos rfl] at h2
    refine kw (za1 hL hn) ?_
    rcases Ex.then1_some h2 with ⟨e2, q2, hz, h5⟩ | ⟨q2, hz, rfl⟩
    ·have hcq2 := h4 m (q + 2) _ (by omega) hlt0 hz
     clear hz h2
     refine cp 0 (hcq2) ?_
     rintro o e' ⟨rfl, he, hq2⟩
     simp only [List.cons.injEq, and_true] at he
     subst he
     show wpR _ _ _ _ _ (X.put _ _ _ [(0, prsE L _)])
     refine wk ?_
     cases h5
     refine rt ?_
     exact ⟨(by first | rfl | (simp [expC, Ex.eUn, Ex.eBin, Ex.eIs, Ex.eIn, Ex.eBtw, Ex.zaY, Ex.eVal, Ex.eCol, Ex.eCase, Ex.eFn, Ex.eAgg, Ex.za0, Ex.v0]; first | done | rfl | exact ⟨rfl, rfl⟩)), rfl, hq2⟩
    ·have hcq2 := h4 m (q + 2) _ (by omega) hlt0 hz
     clear hz h2
     refine cp 0 (hcq2) ?_
     rintro o e' ⟨rfl, he, hq2⟩
     simp only [List.cons.injEq, and_true] at he
     subst he
     refine pq ?_
     exact ⟨rfl, rfl, hq2⟩
  rw [if_neg (by simp [hi])] at h2
  refine kw (zaP hL hq hi) ?_
  cases hn : Ex.isT (L.map (·.1)) q 2 Ex.wNot
  ·rw [hn] at h2; simp only [Bool.false_and, Bool.false_eq_true, if_false] at h2
   refine kw (zeC (a := 0) hL hq (by omega) hn) ?_
   cases hwin : Ex.isT (L.map (·.1)) (q) 2 Ex.wIn
   rotate_left
   ·skip
    rw [if_pos hwin] at h2
    have hlt1 : q < L.length := by simpa using Ex.isT_lt hwin
    refine kw (za1 hL hwin) ?_
    rcases Ex.need_some h2 with ⟨ho1, hy2⟩ | ⟨ho1, rfl⟩
    ·have hlt2 : q + 1 < L.length := by simpa using Ex.isT_lt ho1
     refine kw (zaG hL ho1) ?_
     rcases Ex.thenL_some hy2 with ⟨l, q3, hl1, hl2⟩ | ⟨q3, hl1, rfl⟩
     ·have hcl := hls m (q + 1 + 1) _ (by omega) hlt2 hl1
      clear hl1 hy2 h2
      refine cp 0 (hcl) ?_
      rintro o e' ⟨rfl, he, hq3, hll⟩
      simp only [List.cons.injEq, and_true] at he
      subst he
      show wpR _ _ _ _ _ (X.put _ _ _ [(0, prsE L _)])
      have hbd : (1 + l.length) * 129 ≤ 140737488355328 := by omega
      have hcm : 1 + l.length = l.length + 1 := Nat.add_comm _ _
      have hx : ((l.map fun e => Vm.V.agg (expC e)).take l.length) = l.map fun e => .agg (expC e) := List.take_of_length_le (by simp)
      have hbd2 : (l.length + 1) * 129 ≤ 140737488355328 := by omega
      refine wk ?_
      cases hl2
      refine rt ?_
      exact ⟨(by first | rfl | (simp [expC, Ex.eUn, Ex.eBin, Ex.eIs, Ex.eIn, Ex.eBtw, Ex.zaY, Ex.eVal, Ex.eCol, Ex.eCase, Ex.eFn, Ex.eAgg, Ex.za0, Ex.v0]; first | done | rfl | exact ⟨rfl, rfl⟩)), rfl, hq3⟩
     ·have hcl := hls m (q + 1 + 1) _ (by omega) hlt2 hl1
      clear hl1 hy2 h2
      refine cp 0 (hcl) ?_
      rintro o e' ⟨rfl, he, hq3⟩
      simp only [List.cons.injEq, and_true] at he
      subst he
      refine pq ?_
      exact ⟨rfl, rfl, hq3⟩
    ·clear h2
     refine cp 0 (zaH hL hlt1 ho1) ?_
     rintro o e' ⟨rfl, he⟩
     simp only [List.cons.injEq, and_true] at he
     subst he
     refine pq ?_
     exact ⟨rfl, rfl, hlt1⟩
   rw [if_neg (by simp [hwin])] at h2
   refine kw (zaP hL hq hwin) ?_
   cases hwbt : Ex.isT (L.map (·.1)) (q) 2 Ex.zaO
   rotate_left
   ·skip
    rw [if_pos hwbt] at h2
    have hlt1 : q < L.length := by simpa using Ex.isT_lt hwbt
    refine kw (za1 hL hwbt) ?_
    rcases Ex.then1_some h2 with ⟨e2, q2, hz, h5⟩ | ⟨q2, hz, rfl⟩
    ·have hcq2 := h4 m (q + 1) _ (by omega) hlt1 hz
     clear hz h2
     refine cp 0 (hcq2) ?_
     rintro o e' ⟨rfl, he, hq2⟩
     simp only [List.cons.injEq, and_true] at he
     subst he
     show wpR _ _ _ _ _ (X.put _ _ _ [(0, prsE L _)])
     refine wk ?_
     rcases Ex.need_some h5 with ⟨ho1, hy2⟩ | ⟨ho1, rfl⟩
     ·have hlt2 : q2 < L.length := by simpa using Ex.isT_lt ho1
      clear h5
      refine kw (zaG hL ho1) ?_
      rcases Ex.then1_some hy2 with ⟨e4, q4, hz3, h7⟩ | ⟨q4, hz3, rfl⟩
      ·have hcq4 := h4 m (q2 + 1) _ (by omega) hlt2 hz3
       clear hz3 hy2
       refine cp 0 (hcq4) ?_
       rintro o e' ⟨rfl, he, hq4⟩
       simp only [List.cons.injEq, and_true] at he
       subst he
       show wpR _ _ _ _ _ (X.put _ _ _ [(0, prsE L _)])
       refine wk ?_
       cases h7
       refine rt ?_
       exact ⟨(by first | rfl | (simp [expC, Ex.eUn, Ex.eBin, Ex.eIs, Ex.eIn, Ex.eBtw, Ex.zaY, Ex.eVal, Ex.eCol, Ex.eCase, Ex.eFn, Ex.eAgg, Ex.za0, Ex.v0]; first | done | rfl | exact ⟨rfl, rfl⟩)), rfl, hq4⟩
      ·have hcq4 := h4 m (q2 + 1) _ (by omega) hlt2 hz3
       clear hz3 hy2
       refine cp 0 (hcq4) ?_
       rintro o e' ⟨rfl, he, hq4⟩
       simp only [List.cons.injEq, and_true] at he
       subst he
       refine pq ?_
       exact ⟨rfl, rfl, hq4⟩
     ·clear h5
      refine cp 0 (zaH hL hq2 ho1) ?_
      rintro o e' ⟨rfl, he⟩
      simp only [List.cons.injEq, and_true] at he
      subst he
      refine pq ?_
      exact ⟨rfl, rfl, hq2⟩
    ·have hcq2 := h4 m (q + 1) _ (by omega) hlt1 hz
     clear hz h2
     refine cp 0 (hcq2) ?_
     rintro o e' ⟨rfl, he, hq2⟩
     simp only [List.cons.injEq, and_true] at he
     subst he
     refine pq ?_
     exact ⟨rfl, rfl, hq2⟩
   rw [if_neg (by simp [hwbt])] at h2
   refine kw (zaP hL hq hwbt) ?_
   cases hwlk : Ex.isT (L.map (·.1)) (q) 2 Ex.zbV
   rotate_left
   ·skip
    rw [if_pos hwlk] at h2
    have hlt1 : q < L.length := by simpa using Ex.isT_lt hwlk
    refine kw (za1 hL hwlk) ?_
    rcases Ex.then1_some h2 with ⟨e2, q2, hz, h5⟩ | ⟨q2, hz, rfl⟩
    ·have hcq2 := h4 m (q + 1) _ (by omega) hlt1 hz
     clear hz h2
     refine cp 0 (hcq2) ?_
     rintro o e' ⟨rfl, he, hq2⟩
     simp only [List.cons.injEq, and_true] at he
     subst he
     show wpR _ _ _ _ _ (X.put _ _ _ [(0, prsE L _)])
     refine wk ?_
     cases h5
     refine rt ?_
     exact ⟨(by first | rfl | (simp [expC, Ex.eUn, Ex.eBin, Ex.eIs, Ex.eIn, Ex.eBtw, Ex.zaY, Ex.eVal, Ex.eCol, Ex.eCase, Ex.eFn, Ex.eAgg, Ex.za0, Ex.v0]; first | done | rfl | exact ⟨rfl, rfl⟩)), rfl, hq2⟩
    ·have hcq2 := h4 m (q + 1) _ (by omega) hlt1 hz
     clear hz h2
     refine cp 0 (hcq2) ?_
     rintro o e' ⟨rfl, he, hq2⟩
     simp only [List.cons.injEq, and_true] at he
     subst he
     refine pq ?_
     exact ⟨rfl, rfl, hq2⟩
   rw [if_neg (by simp [hwlk])] at h2
   refine kw (zaP hL hq hwlk) ?_
   cases h2
   refine rt ?_
   exact ⟨(by first | rfl | (simp [expC, Ex.eUn, Ex.eBin, Ex.eIs, Ex.eIn, Ex.eBtw, Ex.zaY, Ex.eVal, Ex.eCol, Ex.eCase, Ex.eFn, Ex.eAgg, Ex.za0, Ex.v0]; first | done | rfl | exact ⟨rfl, rfl⟩)), rfl, hq⟩
  ·have hltn : q < L.length := by simpa using Ex.isT_lt hn
   have h5a : 0 ≤ (q : Int) + 1 := by omega
   refine kw (zeC (a := 0) hL hq (by omega) hn) ?_
   cases hin : Ex.isT (L.map (·.1)) (q + 1) 2 Ex.wIn
   rotate_left
   ·rw [hn, hin] at h2; simp only [Bool.true_and, Bool.true_or, Bool.or_true, Bool.false_or, if_true] at h2
    refine kw (zeC (a := 1) hL hq (by omega) hin) ?_
    rw [if_pos hin] at h2
    have hlt1 : q + 1 < L.length := by simpa using Ex.isT_lt hin
    refine kw (za1 hL hin) ?_
    rcases Ex.need_some h2 with ⟨ho1, hy2⟩ | ⟨ho1, rfl⟩
    ·have hlt2 : q + 1 + 1 < L.length := by simpa using Ex.isT_lt ho1
     refine kw (zaG hL ho1) ?_
     rcases Ex.thenL_some hy2 with ⟨l, q3, hl1, hl2⟩ | ⟨q3, hl1, rfl⟩
     ·have hcl := hls m (q + 1 + 1 + 1) _ (by omega) hlt2 hl1
      clear hl1 hy2 h2
      refine cp 0 (hcl) ?_
      rintro o e' ⟨rfl, he, hq3, hll⟩
      simp only [List.cons.injEq, and_true] at he
      subst he
      show wpR _ _ _ _ _ (X.put _ _ _ [(0, prsE L _)])
      have hbd : (1 + l.length) * 129 ≤ 140737488355328 := by omega
      have hcm : 1 + l.length = l.length + 1 := Nat.add_comm _ _
      have hx : ((l.map fun e => Vm.V.agg (expC e)).take l.length) = l.map fun e => .agg (expC e) := List.take_of_length_le (by simp)
      have hbd2 : (l.length + 1) * 129 ≤ 140737488355328 := by omega
      refine wk ?_
      cases hl2
      refine rt ?_
      exact ⟨(by first | rfl | (simp [expC, Ex.eUn, Ex.eBin, Ex.eIs, Ex.eIn, Ex.eBtw, Ex.zaY, Ex.eVal, Ex.eCol, Ex.eCase, Ex.eFn, Ex.eAgg, Ex.za0, Ex.v0]; first | done | rfl | exact ⟨rfl, rfl⟩)), rfl, hq3⟩
     ·have hcl := hls m (q + 1 + 1 + 1) _ (by omega) hlt2 hl1
      clear hl1 hy2 h2
      refine cp 0 (hcl) ?_
      rintro o e' ⟨rfl, he, hq3⟩
      simp only [List.cons.injEq, and_true] at he
      subst he
      refine pq ?_
      exact ⟨rfl, rfl, hq3⟩
    ·clear h2
     refine cp 0 (zaH hL hlt1 ho1) ?_
     rintro o e' ⟨rfl, he⟩
     simp only [List.cons.injEq, and_true] at he
     subst he
     refine pq ?_
     exact ⟨rfl, rfl, hlt1⟩
   refine kw (zeC (a := 1) hL hq (by omega) hin) ?_
   cases hbt : Ex.isT (L.map (·.1)) (q + 1) 2 Ex.zaO
   rotate_left
   ·rw [hn, hin, hbt] at h2; simp only [Bool.true_and, Bool.true_or, Bool.or_true, Bool.false_or, if_true] at h2
    refine kw (zeC (a := 1) hL hq (by omega) hbt) ?_
    rw [if_neg (by simp [hin])] at h2
    refine kw (zaP hL hltn hin) ?_
    rw [if_pos hbt] at h2
    have hlt1 : q + 1 < L.length := by simpa using Ex.isT_lt hbt
    refine kw (za1 hL hbt) ?_
    rcases Ex.then1_some h2 with ⟨e2, q2, hz, h5⟩ | ⟨q2, hz, rfl⟩
    ·have hcq2 := h4 m (q + 1 + 1) _ (by omega) hlt1 hz
     clear hz h2
     refine cp 0 (hcq2) ?_
     rintro o e' ⟨rfl, he, hq2⟩
     simp only [List.cons.injEq, and_true] at he
     subst he
     show wpR _ _ _ _ _ (X.put _ _ _ [(0, prsE L _)])
     refine wk ?_
     rcases Ex.need_some h5 with ⟨ho1, hy2⟩ | ⟨ho1, rfl⟩
     ·have hlt2 : q2 < L.length := by simpa using Ex.isT_lt ho1
      clear h5
      refine kw (zaG hL ho1) ?_
      rcases Ex.then1_some hy2 with ⟨e4, q4, hz3, h7⟩ | ⟨q4, hz3, rfl⟩
      ·have hcq4 := h4 m (q2 + 1) _ (by omega) hlt2 hz3
       clear hz3 hy2
       refine cp 0 (hcq4) ?_
       rintro o e' ⟨rfl, he, hq4⟩
       simp only [List.cons.injEq, and_true] at he
       subst he
       show wpR _ _ _ _ _ (X.put _ _ _ [(0, prsE L _)])
       refine wk ?_
       cases h7
       refine rt ?_
       exact ⟨(by first | rfl | (simp [expC, Ex.eUn, Ex.eBin, Ex.eIs, Ex.eIn, Ex.eBtw, Ex.zaY, Ex.eVal, Ex.eCol, Ex.eCase, Ex.eFn, Ex.eAgg, Ex.za0, Ex.v0]; first | done | rfl | exact ⟨rfl, rfl⟩)), rfl, hq4⟩
      ·have hcq4 := h4 m (q2 + 1) _ (by omega) hlt2 hz3
       clear hz3 hy2
       refine cp 0 (hcq4) ?_
       rintro o e' ⟨rfl, he, hq4⟩
       simp only [List.cons.injEq, and_true] at he
       subst he
       refine pq ?_
       exact ⟨rfl, rfl, hq4⟩
     ·clear h5
      refine cp 0 (zaH hL hq2 ho1) ?_
      rintro o e' ⟨rfl, he⟩
      simp only [List.cons.injEq, and_true] at he
      subst he
      refine pq ?_
      exact ⟨rfl, rfl, hq2⟩
    ·have hcq2 := h4 m (q + 1 + 1) _ (by omega) hlt1 hz
     clear hz h2
     refine cp 0 (hcq2) ?_
     rintro o e' ⟨rfl, he, hq2⟩
     simp only [List.cons.injEq, and_true] at he
     subst he
     refine pq ?_
     exact ⟨rfl, rfl, hq2⟩
   refine kw (zeC (a := 1) hL hq (by omega) hbt) ?_
   cases hlk : Ex.isT (L.map (·.1)) (q + 1) 2 Ex.zbV
   rotate_left
   ·rw [hn, hin, hbt, hlk] at h2; simp only [Bool.true_and, Bool.true_or, Bool.or_true, Bool.false_or, if_true] at h2
    refine kw (zeC (a := 1) hL hq (by omega) hlk) ?_
    rw [if_neg (by simp [hin])] at h2
    refine kw (zaP hL hltn hin) ?_
    rw [if_neg (by simp [hbt])] at h2
    refine kw (zaP hL hltn hbt) ?_
    rw [if_pos hlk] at h2
    have hlt1 : q + 1 < L.length := by simpa using Ex.isT_lt hlk
    refine kw (za1 hL hlk) ?_
    rcases Ex.then1_some h2 with ⟨e2, q2, hz, h5⟩ | ⟨q2, hz, rfl⟩
    ·have hcq2 := h4 m (q + 1 + 1) _ (by omega) hlt1 hz
     clear hz h2
     refine cp 0 (hcq2) ?_
     rintro o e' ⟨rfl, he, hq2⟩
     simp only [List.cons.injEq, and_true] at he
     subst he
     show wpR _ _ _ _ _ (X.put _ _ _ [(0, prsE L _)])
     refine wk ?_
     cases h5
     refine rt ?_
     exact ⟨(by first | rfl | (simp [expC, Ex.eUn, Ex.eBin, Ex.eIs, Ex.eIn, Ex.eBtw, Ex.zaY, Ex.eVal, Ex.eCol, Ex.eCase, Ex.eFn, Ex.eAgg, Ex.za0, Ex.v0]; first | done | rfl | exact ⟨rfl, rfl⟩)), rfl, hq2⟩
    ·have hcq2 := h4 m (q + 1 + 1) _ (by omega) hlt1 hz
     clear hz h2
     refine cp 0 (hcq2) ?_
     rintro o e' ⟨rfl, he, hq2⟩
     simp only [List.cons.injEq, and_true] at he
     subst he
     refine pq ?_
     exact ⟨rfl, rfl, hq2⟩
   refine kw (zeC (a := 1) hL hq (by omega) hlk) ?_
   rw [hn, hin, hbt, hlk] at h2; simp only [Bool.true_and, Bool.or_self, Bool.false_eq_true, if_false] at h2
   have hw : ∀ s, s ≠ Ex.wNot → Ex.isT (L.map (·.1)) q 2 s = false := fun s hs => zo8 hn hs
   have hwin := hw Ex.wIn (by decide); have hwbt := hw Ex.zaO (by decide); have hwlk := hw Ex.zbV (by decide)
   clear hw
   rw [if_neg (by simp [hwin])] at h2
   refine kw (zaP hL hq hwin) ?_
   rw [if_neg (by simp [hwbt])] at h2
   refine kw (zaP hL hq hwbt) ?_
   rw [if_neg (by simp [hwlk])] at h2
   refine kw (zaP hL hq hwlk) ?_
   cases h2
   refine rt ?_
   exact ⟨(by first | rfl | (simp [expC, Ex.eUn, Ex.eBin, Ex.eIs, Ex.eIn, Ex.eBtw, Ex.zaY, Ex.eVal, Ex.eCol, Ex.eCase, Ex.eFn, Ex.eAgg, Ex.za0, Ex.v0]; first | done | rfl | exact ⟨rfl, rfl⟩)), rfl, hq⟩
end
end Go.Proofs.YtakegkongmnekaaGreatDoor
