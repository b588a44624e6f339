/- Part of the proof: see the last text. -/
import Derived.Test.YtakegkongmnekaaGreatDoorP22
import Derived.Test.YtakegkongmnekaaGreatDoorP24
import Derived.Test.YtakegkongmnekaaGreatDoorP25
set_option maxRecDepth 20000
set_option linter.unusedVariables false
set_option linter.unusedSimpArgs false
set_option linter.unusedSectionVars false
namespace Go.Proofs.YtakegkongmnekaaGreatDoor
open Go.RowKit
open Vm
variable [Gl]
theorem zcE (k : Int) (o : Ex.S) (v : Ex.V) (t n : Ex.S) (s : Int) (g d : Bool) (a : List Ex.E) : Ex.deep (.mk k o v t n s g d a) = Ex.deeps a + 1 := by rw [Ex.deep]
theorem zdB (k : Int) (o : Ex.S) (v : Ex.V) (t n : Ex.S) (s : Int) (g d : Bool) (a : List Ex.E) : Ex.count (.mk k o v t n s g d a) = Ex.counts a + 1 := by rw [Ex.count]
theorem zcD : ∀ {l : List Ex.E} {x : Ex.E}, x ∈ l → Ex.deep x ≤ Ex.deeps l
 | a :: l, x, h => by
  rw [Ex.deeps]
  rcases List.mem_cons.1 h with rfl | h
  ·omega
  ·have := zcD h; omega
theorem zqR (e : Ex.E) : 1 ≤ Ex.count e := by cases e; rw [Ex.count]; omega
theorem zbI : ∀ {l : List Ex.E} {x : Ex.E}, x ∈ l → Ex.count x ≤ Ex.counts l
 | a :: l, x, h => by
  rw [Ex.counts]
  rcases List.mem_cons.1 h with rfl | h
  ·omega
  ·have := zbI h; omega
theorem zb1 : ∀ l : List Ex.E, l.length ≤ Ex.counts l
 | [] => Nat.le_refl _
 | a :: l => by
  have := zb1 l
  have := zqR a
  rw [Ex.counts, List.length_cons]; omega
mutual
theorem zoq : ∀ e, Ex.deep e ≤ Ex.count e
 | .mk _ _ _ _ _ _ _ _ a => by
  rw [Ex.deep, Ex.count]
  have := zd3 a
  omega
theorem zd3 : ∀ l, Ex.deeps l ≤ Ex.counts l
 | [] => Nat.le_refl _
 | e :: r => by
  rw [Ex.deeps, Ex.counts]
  have := zoq e
  have := zd3 r
  omega
end
theorem zdr (l : List Ex.E) (i : Nat) (k : IntKind) : elV 11 (.list (l.map encE)) (.int k (i : Int)) = (l[i]?).map encE := znz 11 encE l k i fun e => zcn e
theorem zdF (e : Ex.E) : ldV true 11 (encE e) 0 = some (encE e) := by
 have h := zcn e
 cases e
 rw [enc_mk] at h ⊢
 unfold ldV
 rw [if_pos ⟨rfl, rfl, h⟩]
def parV (p : Nat) (r : Ex.R) : Vm.V := match r with
 | .ok [e] q => if Ex.deep e ≤ 24 then .tup [encE e, .int .i64 (q : Int), .int .i64 0] else .tup [encE Ex.e0, .int .i64 (p : Int), .int .i64 12]
 | .ok _ _ => .undef
 | .stop q => .tup [encE Ex.e0, .int .i64 (q : Int), .int .i64 20]
theorem oeq_w {v : Vm.V} (h : wf v = true) : oeq (.ret v, []) (.ret v, []) = true := by simp [oeq, eeqs, zcN h]
section
variable {s : List UInt8} {l : List Lx.TA} {a : Nat}
theorem zo0 : ∀ {l : List Lx.T} {t : Lx.T}, t ∈ l → t.text.length ≤ (l.map fun t => t.text.length).sum
 | u :: l, t, h => by
  rw [List.map_cons, List.sum_cons]
  rcases List.mem_cons.1 h with rfl | h
  ·omega
  ·have := zo0 h; omega
theorem scan_L (h : Lx.scan s = (l, a, 0)) : l.length ≤ 4097 := (Ex.zeZ h).2.2.2.2.2
theorem scan_G (hs : s.length ≤ 1000000) (h : Lx.scan s = (l, a, 0)) : Good l := fun i t ht => by
 obtain ⟨g1, g2, g3, g4, g5, g6⟩ := Ex.zeZ h
 have hm : t.1 ∈ l.map (·.1) := List.mem_map.2 ⟨t, List.mem_of_getElem? ht, rfl⟩
 have hg := g3 _ hm
 have := zo0 hm
 exact ⟨by omega, hg.lo, hg.hi⟩
theorem scan_one (h : Lx.scan s = (l, a, 0)) {m : Nat} {r : Ex.R} (hr : Ex.run (l.map (·.1)) m (.lev 0) 0 = some r) : (∀ k q, r = .ok k q → ∃ e, k = [e]) ∧ ∀ e q, r = .ok [e] q → Ex.count e ≤ 900000 := by
 obtain ⟨g1, g2, g3, g4, g5, g6⟩ := Ex.zeZ h
 refine ⟨fun k q hk => ?_, fun e q hk => ?_⟩
 ·subst hk
  obtain ⟨-, e, he, -⟩ := (Ex.zfP _ g2 m).1 0 0 _ _ hr
  exact ⟨e, he⟩
 ·subst hk
  have := (Ex.run_ok h hr).2.2.2.2
  omega
theorem ziK {t : Lx.TA} {n i : Nat} (h : l[i]? = some t) : Ex.zkZ l n i = t.2 := by unfold Ex.zkZ; rw [h]
theorem zn9 {n i : Nat} (h : l[i]? = none) : Ex.zkZ l n i = n := by unfold Ex.zkZ; rw [h]
end
end Go.Proofs.YtakegkongmnekaaGreatDoor
namespace Go.Proofs.YtakegkongmnekaaGreatDoor
open Go.RowKit
open Vm
variable [Gl]
theorem ziZ (a : List Ex.E) (ha : a.length ≤ 900000) (hd : ∀ x ∈ a, Ex.deep x ≤ 900000) (h : ∀ x ∈ a, pr.ev 16 [encE x] [] = some (.ret (.int .i64 (Ex.deep x : Nat)), [])) : ∀ (n i m : Nat), i + n = a.length → m ≤ 900000 →
  lup Out (sh_expr_Deep_l0 pr.ev lup) [.int .i64 (m : Nat), .list (a.map encE), .int .i64 (a.length : Nat), .int .i64 (i : Nat)] = some (.ret (.int .i64 ((max m (Ex.deeps (a.drop i)) + 1 : Nat) : Int)), [])
 | 0, i, m, hi, hm => by
  have h1 : ¬ i < a.length := by omega
  have h2 : a.drop i = [] := List.drop_of_length_le (by omega)
  rw [zaU]
  simp [-Int.natCast_add, sh_expr_Deep_l0, sh_expr_Deep_j1, h1, h2, Ex.deeps, rtn, zde (show m ≤ 1000000 by omega)]
 | n + 1, i, m, hi, hm => by
  have h1 : i < a.length := by omega
  have h2 : a.drop i = a[i] :: a.drop (i + 1) := List.drop_eq_getElem_cons h1
  have hmem : a[i] ∈ a := List.getElem_mem h1
  have hdi := hd _ hmem
  have ih := ziZ a ha hd h n (i + 1) (max m (Ex.deep a[i])) (by omega) (by omega)
  have hmx : max (m : Int) (Ex.deep a[i] : Int) = ((max m (Ex.deep a[i]) : Nat) : Int) := by omega
  rw [zaU, h2, Ex.deeps, ← Nat.max_assoc, ← ih]
  simp [-Int.natCast_add, sh_expr_Deep_l0, h1, zdr, zdF, zad (h _ hmem), zde (show i ≤ 1000000 by omega), hmx]
theorem zp7 : ∀ (n : Nat) (e : Ex.E), Ex.deep e ≤ n → Ex.count e ≤ 900000 → pr.ev 16 [encE e] [] = some (.ret (.int .i64 (Ex.deep e : Nat)), [])
 | 0, .mk k o v t nm s g d a, h, _ => by rw [zcE] at h; omega
 | n + 1, .mk k o v t nm s g d a, h, hc => by
  rw [zcE] at h
  rw [zdB] at hc
  have hal := zb1 a
  have hdc := zd3 a
  have ih : ∀ x ∈ a, pr.ev 16 [encE x] [] = some (.ret (.int .i64 (Ex.deep x : Nat)), []) := fun x hx => zp7 n x (by have := zcD hx; omega) (by have := zbI hx; omega)
  have hl := ziZ a (by omega) (fun x hx => by have := zcD hx; omega) ih a.length 0 0 (by omega) (by omega)
  have e10 : cell (encE (.mk k o v t nm s g d a)) 10 = .list (a.map encE) := by rw [enc_mk]; rfl
  refine pr.of rfl (by simp only [List.map, (zbF _).rd]; rfl) rfl (zlU _ _ _ _) ?_
  rw [zcE]
  simpa [-Int.natCast_add, sh_expr_Deep, e10] using hl
end Go.Proofs.YtakegkongmnekaaGreatDoor
namespace Go.Proofs.YtakegkongmnekaaGreatDoor
open Go.RowKit
open Vm
variable [Gl]
def ofV (e : Ex.E) (n : Nat) (no : Int) : Vm.V := .tup [encE e, .int .i64 (n : Int), .int .i64 no]
end Go.Proofs.YtakegkongmnekaaGreatDoor
namespace Go.Proofs.YtakegkongmnekaaGreatDoor
open Go.RowKit
open Vm
variable [Gl]
theorem znE (c : Orc) (a b k d e f g h i j l m n : Vm.V) : shg_expr_Parse_1 c .niface a b k d e f g h i j l m n = some [.blk 27 [a, b, k, d, e, f, g, h, i, j, l], .blk 3 [m], .blk 28 [n]] := by kernel_rfl
theorem clo_stop (c : Orc) (q : Nat) (a b k d e f g h i j l m n : Vm.V) : shg_expr_Parse_1 c (stopV q) a b k d e f g h i j l m n = some [.blk 27 [.int .i64 0, .str [], .int .i64 0, .int .i64 0, .str [], .str [], .str [], .int .i64 0, .bool false, .bool false, .nils], .blk 3 [.int .i64 q], .blk 28 [.int .i64 20]] := by
 have h : eeqs [.blk 27 [.int .i64 0, .str [], .int .i64 0, .int .i64 0, .str [], .str [], .str [], .int .i64 0, .bool false, .bool false, .nils], .blk 3 [.int .i64 q], .blk 28 [.int .i64 20]] [.blk 27 [.int .i64 0, .str [], .int .i64 0, .int .i64 0, .str [], .str [], .str [], .int .i64 0, .bool false, .bool false, .nils], .blk 3 [.int .i64 q], .blk 28 [.int .i64 20]] = true := by simp [eeqs, eeq, veqs, veq]
 simp [shg_expr_Parse_1, stopV, gW, tasW, tasV, wf, wfs, ag, ckA_agg, agr_s, h]
section
variable {L : List Lx.TA}
theorem m_Parse (hL : L.length ≤ 999999) (hT : Good L) {p m : Nat} {r : Ex.R} (hp : p ≤ L.length) (hr : Ex.run (L.map (·.1)) m (.lev 0) p = some r) (hc : ∀ e q, r = .ok [e] q → Ex.count e ≤ 900000) :
  pr.ev 19 [.list (L.map tokM), .int .i64 (p : Int)] [] = some (.ret (parV p r), []) := by
 refine pr.ofN rfl ?_
 show evFD Tryz.prog _ pr.ev [10, 11, 12] [(4, 0), (5, 1), (6, 2)] 19 [.d (.list (L.map tokM)), .d (.int .i64 p)] = _
 rw [zkK]
 have h1 : ¬ ((p : Int) < 0) := by omega
 have h2 : ¬ (L.length < p) := by omega
 rcases prog_expr hL hT hp hr with ⟨e, q, rfl, h3, h4, h5⟩ | ⟨q, rfl, h4, h5⟩
 ·have hd := zp7 (Ex.deep e) e (Nat.le_refl _) (hc e q rfl)
  have hw : wfs (((fun e => encE e) <$> ([] : List Ex.E))) = true := rfl
  have hwe := ziY e
  by_cases hde : Ex.deep e ≤ 24
  ·have h24 : ¬ ((24 : Int) < (Ex.deep e : Int)) := by omega
   cases e with
   | mk k o v t nm s g d a =>
    rw [enc_mk] at h5 hd hwe
    have hwl : wfs (a.map encE) = true := by simpa [wf, wfs] using hwe
    have hq : oeq (.ret (.tup [encE (.mk k o v t nm s g d a), .int .i64 q, .int .i64 0]), []) (.ret (.tup [encE (.mk k o v t nm s g d a), .int .i64 q, .int .i64 0]), []) = true := oeq_w (by simp [wf, wfs, ziY])
    rw [enc_mk] at hq
    simp [-Int.natCast_add, sh_expr_Parse, sh_expr_Parse_j1, h1, h2, ckA_agg, k_r h5, zad hd, znE, dfr_e, zou, wfs, wf, parV, rtn, hde, h24, hwl, ag, agr_s, hq]
    rw [enc_mk]
  ·have h24 : ((24 : Int) < (Ex.deep e : Int)) := by omega
   cases e with
   | mk k o v t nm s g d a =>
    rw [enc_mk] at h5 hd hwe
    have hwl : wfs (a.map encE) = true := by simpa [wf, wfs] using hwe
    simp [-Int.natCast_add, sh_expr_Parse, sh_expr_Parse_j1, h1, h2, ckA_agg, k_r h5, zad hd, znE, dfr_e, zou, wfs, wf, parV, rtn, hde, h24, hwl, e0_v]
 ·simp [-Int.natCast_add, sh_expr_Parse, sh_expr_Parse_j1, h1, h2, ckA_agg, k_p h5, clo_stop, dfr_e, zou, wfs, wf, parV, rtn, e0_v]
end
def ofEs (l : List Lx.TA) (s : List UInt8) : List Ent := [.blk 39 [.list (l.map tokM)], .blk 9 [.str s]]
theorem zmf {l : List Lx.TA} {s : List UInt8} (i : Nat) : pr.ev 18 [.int .i64 (i : Int), .ptr 0 0, .ptr 1 0] (ofEs l s) = some (.ret (.int .i64 (Ex.zkZ l s.length i : Nat)), ofEs l s) := by
 refine pr.of rfl rfl rfl (zlT _ _ _ _ _ _) ?_
 have ld5 : ∀ t : Lx.TA, ldV false 1 (tokM t) 5 = some (.int .i64 (t.2 : Int)) := fun _ => rfl
 cases hq : l[i]? with
 | some t =>
  have hlt := (List.getElem?_eq_some_iff.1 hq).1
  have el : elV 6 (.list (l.map tokM)) (.int .i64 (i : Int)) = some (tokM t) := by rw [zdD, hq]; rfl
  simp [-Int.natCast_add, -zdD, el, sh_expr_Of_1, hlt, ld5, rtn, ziK hq, ofEs]
 | none =>
  have hge : ¬ i < l.length := by simpa using hq
  simp [-Int.natCast_add, sh_expr_Of_1, hge, rtn, zn9 hq, ofEs]
section
variable {s : List UInt8} {l : List Lx.TA} {a : Nat}
theorem par_m (hs : s.length ≤ 1000000) (h : Lx.scan s = (l, a, 0)) {m : Nat} {r : Ex.R} (hr : Ex.run (l.map (·.1)) m (.lev 0) 0 = some r) : pr.ev 19 [.list (l.map tokM), .int .i64 0] [] = some (.ret (parV 0 r), []) :=
 m_Parse (p := 0) (by have := scan_L h; omega) (scan_G hs h) (Nat.zero_le _) hr (scan_one h hr).2
theorem m_Of {e : Ex.E} {n : Nat} {no : Int} (hs : s.length ≤ 1000000) (h : Ex.OfR s e n no) : pr.ev 7 [.str s] [] = some (.ret (ofV e n no), []) := by
 refine pr.of rfl rfl rfl (zpe _ _ _ _) ?_
 have hsc := ev_scan hs
 have ld0 : ∀ t : Lx.TA, ldV false 1 (tokM t) 0 = some (.int .i64 t.1.kind) := fun _ => rfl
 cases h with
 | bad l a no hscan hne =>
  rw [zhe, hscan] at hsc
  simp [-Int.natCast_add, sh_expr_Of, zad hsc, hne, ofV, rtn, e0_v]
 | stop l' a m q hscan hr =>
  rw [zhe, hscan] at hsc
  have hpar := par_m hs hscan hr
  simp only [parV] at hpar
  have hpl2 := zmf (l := l') (s := s) q
  rw [ofEs] at hpl2
  simp [-Int.natCast_add, sh_expr_Of, zad hsc, zad hpar, clM_r hpl2, zou, wfs, wf, zeu, ofV, rtn, e0_v]
 | deep l' a m q e hscan hr hd =>
  rw [zhe, hscan] at hsc
  have hpar := par_m hs hscan hr
  simp only [parV, if_neg (show ¬ Ex.deep e ≤ 24 by omega)] at hpar
  have hpl2 := zmf (l := l') (s := s) 0
  rw [ofEs] at hpl2
  simp only [Int.natCast_zero] at hpl2
  simp [-Int.natCast_add, sh_expr_Of, zad hsc, zad hpar, clM_r hpl2, zou, wfs, wf, zeu, ofV, rtn, e0_v]
 | rest l' a m q e t hscan hr hd hq hk =>
  rw [zhe, hscan] at hsc
  have hpar := par_m hs hscan hr
  simp only [parV, if_pos hd] at hpar
  have hlt := (List.getElem?_eq_some_iff.1 hq).1
  have el : elV 6 (.list (l'.map tokM)) (.int .i64 (q : Int)) = some (tokM t) := by rw [zdD, hq]; rfl
  have hpl2 := zmf (l := l') (s := s) q
  rw [ofEs, ziK hq] at hpl2
  simp [-Int.natCast_add, -zdD, el, sh_expr_Of, sh_expr_Of_j1, zad hsc, zad hpar, clM_r hpl2, zou, wfs, wf, zeu, hlt, hk, ofV, rtn, e0_v, ld0]
 | ok l' a m q e hscan hr hd hk =>
  rw [zhe, hscan] at hsc
  have hpar := par_m hs hscan hr
  simp only [parV, if_pos hd] at hpar
  cases hq : l'[q]? with
  | some t =>
   have hlt := (List.getElem?_eq_some_iff.1 hq).1
   have el : elV 6 (.list (l'.map tokM)) (.int .i64 (q : Int)) = some (tokM t) := by rw [zdD, hq]; rfl
   simp [-Int.natCast_add, -zdD, el, sh_expr_Of, sh_expr_Of_j1, zad hsc, zad hpar, hlt, hk t hq, ofV, rtn, e0_v, ld0]
  | none =>
   have hge : ¬ q < l'.length := by simpa using hq
   simp [-Int.natCast_add, sh_expr_Of, sh_expr_Of_j1, zad hsc, zad hpar, hge, ofV, rtn, e0_v]
end
end Go.Proofs.YtakegkongmnekaaGreatDoor
namespace Go.Proofs.YtakegkongmnekaaGreatDoor
open Go.RowKit
open Vm
theorem inner_eq (k k' kv : Int) (T : Ex.S) : (if k = 3 then Ex.innU (k', kv, T) else Ex.inn (k', kv, T)) = if (3 ≤ k' ∧ k' ≤ 8) ∨ (k' = 1 ∧ k = 3 ∧ kv = 1) then 40 :: (T ++ [41]) else T := by
 by_cases h3 : k = 3
 ·rw [if_pos h3, Ex.innU]
  congr 1
  simp [Ex.zbh, h3]
 ·rw [if_neg h3, Ex.inn]
  congr 1
  simp [Ex.zbh, h3]
def shape (k : Int) (d : Bool) (n : Nat) : Prop :=
 k = 1 ∨ k = 2 ∨ (k = 3 ∧ n = 1) ∨ (k = 4 ∧ n = 2) ∨ (k = 5 ∧ n = 2) ∨ (k = 6 ∧ 2 ≤ n) ∨ (k = 7 ∧ n = 3) ∨ (k = 8 ∧ n = 2) ∨ (k = 9 ∧ 2 ≤ n) ∨ (k = 10 ∧ d = false) ∨ (k = 11 ∧ n = 1) ∨ (k = 11 ∧ n = 0) ∨ (k = 12 ∧ n = 1)
theorem zpC {k : Int} {o : Ex.S} {v : Ex.V} {t m : Ex.S} {g d : Bool} {n : Nat} (h : Ex.ownF k o v t m g d n = true) : shape k d n := by
 unfold Ex.ownF at h
 unfold shape
 by_cases hk : k = 1
 ·rw [if_pos hk] at h
  simp only [Bool.and_eq_true, Bool.or_eq_true, Bool.not_eq_true', decide_eq_true_eq] at h
  simp only [hk]
  first | (simp; done) | (simp_all; done) | (simp_all; omega)
 rw [if_neg hk] at h
 by_cases hk : k = 2
 ·rw [if_pos hk] at h
  simp only [Bool.and_eq_true, Bool.or_eq_true, Bool.not_eq_true', decide_eq_true_eq] at h
  simp only [hk]
  first | (simp; done) | (simp_all; done) | (simp_all; omega)
 rw [if_neg hk] at h
 by_cases hk : k = 3
 ·rw [if_pos hk] at h
  simp only [Bool.and_eq_true, Bool.or_eq_true, Bool.not_eq_true', decide_eq_true_eq] at h
  simp only [hk]
  first | (simp; done) | (simp_all; done) | (simp_all; omega)
 rw [if_neg hk] at h
 by_cases hk : k = 4
 ·rw [if_pos hk] at h
  simp only [Bool.and_eq_true, Bool.or_eq_true, Bool.not_eq_true', decide_eq_true_eq] at h
  simp only [hk]
  first | (simp; done) | (simp_all; done) | (simp_all; omega)
 rw [if_neg hk] at h
 by_cases hk : k = 5
 ·rw [if_pos hk] at h
  simp only [Bool.and_eq_true, Bool.or_eq_true, Bool.not_eq_true', decide_eq_true_eq] at h
  simp only [hk]
  first | (simp; done) | (simp_all; done) | (simp_all; omega)
 rw [if_neg hk] at h
 by_cases hk : k = 6
 ·rw [if_pos hk] at h
  simp only [Bool.and_eq_true, Bool.or_eq_true, Bool.not_eq_true', decide_eq_true_eq] at h
  simp only [hk]
  first | (simp; done) | (simp_all; done) | (simp_all; omega)
 rw [if_neg hk] at h
 by_cases hk : k = 7
 ·rw [if_pos hk] at h
  simp only [Bool.and_eq_true, Bool.or_eq_true, Bool.not_eq_true', decide_eq_true_eq] at h
  simp only [hk]
  first | (simp; done) | (simp_all; done) | (simp_all; omega)
 rw [if_neg hk] at h
 by_cases hk : k = 8
 ·rw [if_pos hk] at h
  simp only [Bool.and_eq_true, Bool.or_eq_true, Bool.not_eq_true', decide_eq_true_eq] at h
  simp only [hk]
  first | (simp; done) | (simp_all; done) | (simp_all; omega)
 rw [if_neg hk] at h
 by_cases hk : k = 9
 ·rw [if_pos hk] at h
  simp only [Bool.and_eq_true, Bool.or_eq_true, Bool.not_eq_true', decide_eq_true_eq] at h
  simp only [hk]
  first | (simp; done) | (simp_all; done) | (simp_all; omega)
 rw [if_neg hk] at h
 by_cases hk : k = 10
 ·rw [if_pos hk] at h
  simp only [Bool.and_eq_true, Bool.or_eq_true, Bool.not_eq_true', decide_eq_true_eq] at h
  simp only [hk]
  first | (simp; done) | (simp_all; done) | (simp_all; omega)
 rw [if_neg hk] at h
 by_cases hk : k = 11
 ·rw [if_pos hk] at h
  simp only [Bool.and_eq_true, Bool.or_eq_true, Bool.not_eq_true', decide_eq_true_eq] at h
  simp only [hk]
  first | (simp; done) | (simp_all; done) | (simp_all; omega)
 rw [if_neg hk] at h
 by_cases hk : k = 12
 ·rw [if_pos hk] at h
  simp only [Bool.and_eq_true, Bool.or_eq_true, Bool.not_eq_true', decide_eq_true_eq] at h
  simp only [hk]
  first | (simp; done) | (simp_all; done) | (simp_all; omega)
 rw [if_neg hk] at h
 cases h
inductive Qt : Ex.E → Prop
 | mk {e : Ex.E} : Ex.N64 e → e.val.2.2.length ≤ 1000000 → (∀ x ∈ e.args, Qt x) → Qt e
theorem Qt.n {e : Ex.E} (h : Qt e) : Ex.N64 e := by cases h; assumption
theorem Qt.v {e : Ex.E} (h : Qt e) : e.val.2.2.length ≤ 1000000 := by cases h; assumption
theorem Qt.a {e : Ex.E} (h : Qt e) : ∀ x ∈ e.args, Qt x := by cases h; assumption
theorem zes (c : Ex.C) : c.2.2.length ≤ (Ex.inn c).length := by
 unfold Ex.inn; split <;> simp <;> omega
theorem innU_ge (c : Ex.C) : c.2.2.length ≤ (Ex.innU c).length := by
 unfold Ex.innU; split <;> simp <;> omega
abbrev kO (e : Ex.E) : Ex.C := (e.kind, e.val.1, Ex.print e)
theorem zf5 : ∀ {l : List Ex.E} {x : Ex.E}, x ∈ l → (Ex.print x).length ≤ (Ex.commas (Ex.prints l)).length
 | [y], x, h => by
  obtain rfl := List.mem_singleton.1 h
  exact Nat.le_refl _
 | y :: z :: r, x, h => by
  rw [Ex.prints, Ex.prints, Ex.commas]
  ·rcases List.mem_cons.1 h with rfl | h
   ·simp only [List.length_append]; omega
   ·have := zf5 h
    rw [Ex.prints] at this
    simp only [List.length_append]; omega
  ·intro h; cases h
theorem zgW : ∀ {l : List Ex.E} {x : Ex.E}, x ∈ l → (Ex.print x).length ≤ (Ex.zb6 (Ex.prints l)).length
 | [y], x, h => by
  obtain rfl := List.mem_singleton.1 h
  rw [Ex.prints, Ex.prints, Ex.zb6]
  simp only [List.length_append]; omega
 | y :: z :: r, x, h => by
  rw [Ex.prints, Ex.prints, Ex.zb6]
  simp only [List.length_append]
  rcases List.mem_cons.1 h with rfl | h
  ·omega
  ·rcases List.mem_cons.1 h with rfl | h
   ·omega
   ·have := zgW h
    omega
theorem case_mem {d : Bool} {l : List Ex.E} {x : Ex.E} (h : x ∈ l) : (Ex.print x).length ≤ (Ex.zf8 d (Ex.prints l)).length := by
 unfold Ex.zf8
 cases d
 ·have := zgW h
  simp only [Bool.false_eq_true, if_false, List.length_append]; omega
 ·simp only [if_true, List.length_append]
  cases l with
  | nil => cases h
  | cons y r =>
   rw [Ex.prints]
   simp only [Ex.kid, List.drop_succ_cons, List.drop_zero, List.getElem?_cons_zero, Option.getD_some]
   rcases List.mem_cons.1 h with rfl | h
   ·omega
   ·have := zgW h
    omega
theorem ziG : ∀ s : Ex.S, (Ex.zaI s).length ≤ 2 * s.length
 | [] => Nat.le_refl _
 | c :: r => by
  have := ziG r
  rw [Ex.zaI]
  split <;> simp <;> omega
theorem zcL (x y : List UInt8) (h : x.length ≤ 2000000000) (h' : y.length ≤ 2000000000) : strV .add x y = some (.str (x ++ y)) := st_add x y (by omega)
def accL {α : Type} (f : α → Vm.V) (l : List α) (i : Nat) : Vm.V := if i = 0 then .nils else .list ((l.take i).map f)
theorem accL_0 {α : Type} (f : α → Vm.V) (l : List α) : accL f l 0 = .nils := rfl
theorem app_acc {α : Type} (z b : Nat) (f : α → Vm.V) (l : List α) (i : Nat) (h : i < l.length) (hz : ∀ x, (f x).size = z) (hb : l.length * (b + 1) ≤ 140737488355328) : appV z b (accL f l i) (.list [f l[i]]) = some (accL f l (i + 1)) := by
 have h2 : l.take (i + 1) = l.take i ++ [l[i]] := by rw [List.take_add_one, List.getElem?_eq_getElem h]; rfl
 have hm : (i + 1) * (b + 1) ≤ l.length * (b + 1) := Nat.mul_le_mul_right _ h
 have hz2 : ∀ y ∈ [f l[i]], y.size = z := fun y hy => by rw [List.mem_singleton.1 hy]; exact hz _
 unfold accL
 rw [if_neg (Nat.succ_ne_zero i), h2, List.map_append]
 by_cases h0 : i = 0
 ·subst h0
  rw [if_pos rfl, app_n z b _ hz2 (by simpa using Nat.le_trans hm hb)]
  simp
 ·rw [if_neg h0, zrf z b _ _ hz2 (by simp; rw [Nat.min_eq_left (Nat.le_of_lt h)]; omega)]
  rfl
theorem accL_nm {α : Type} (f : α → Vm.V) (l : List α) : norm1 (accL f l l.length) = .list (l.map f) := by
 unfold accL
 split
 ·rename_i h
  rw [List.eq_nil_of_length_eq_zero h]
  rfl
 ·rw [List.take_length]; rfl
theorem zjk {α : Type} (z : Nat) (f : α → Vm.V) (l : List α) (i : Nat) (hz : ∀ x, (f x).size = z) (h : i ≤ l.length) : slL z (.list (l.map f)) (some (.int .i64 (i : Int))) none = some (.list ((l.drop i).map f)) := by
 have h1 : ∀ x ∈ l.map f, x.size = z := fun x hx => by
  obtain ⟨y, _, rfl⟩ := List.mem_map.1 hx
  exact hz y
 have h2 : (l.map f).take l.length = l.map f := List.take_of_length_le (by simp)
 simp [slL, zdg, bnd, norm0, h, hz, List.map_drop, h2]
end Go.Proofs.YtakegkongmnekaaGreatDoor
namespace Go.Proofs.YtakegkongmnekaaGreatDoor
open Go.RowKit
open Vm
variable [Gl]
theorem ev_num {n : Int} (h1 : -9223372036854775808 ≤ n) (h2 : n ≤ 9223372036854775807) : pr.ev 50 [.int .i64 n] [] = some (.ret (.str (Ox.num n)), []) := pr.ofN rfl (by show zdn (zi4 [.int .i64 n]) = _; simp [zdn, zi4, h1, h2])
theorem ev_hex {s : List UInt8} (hs : s.length ≤ 1000000) : pr.ev 52 [.str s] [] = some (.ret (.str (Ox.hex s)), []) := pr.ofN rfl (by show zdn (ans1 _ [.str s]) = _; simp [zdn, ans1, hs])
theorem zmm {l : List (List UInt8)} {s : List UInt8} (h1 : l.length ≤ 1000000) (h2 : (Lib.join l s).length ≤ 1000000000) : pr.ev 53 [.list (l.map Vm.V.str), .str s] [] = some (.ret (.str (Lib.join l s)), []) := pr.ofN rfl (by show zdn (zh2 [.list (l.map Vm.V.str), .str s]) = _; simp [zdn, zh2, zil, h1, h2])
theorem ev_repl {s : List UInt8} (hs : s.length ≤ 1000000) : pr.ev 51 [.str s, .str [39], .str [39, 39]] [] = some (.ret (.str (Ex.zaI s)), []) := pr.ofN rfl (by show zdn (zh1 [.str s, .str [39], .str [39, 39]]) = _; simp [zdn, zh1, hs])
theorem m_Quote {v : Ex.V} (h1 : -9223372036854775808 ≤ v.2.1) (h2 : v.2.1 ≤ 9223372036854775807) (h3 : v.2.2.length ≤ 1000000) : pr.ev 26 [.agg [.int .i64 v.1, .int .i64 v.2.1, .str v.2.2]] [] = some (.ret (.str (Ex.valP v)), []) := by
 refine pr.of rfl rfl rfl (zkH _ _ _ _) ?_
 have hq := ziG v.2.2
 have hx := zqk v.2.2
 unfold Ex.valP
 by_cases k0 : v.1 = 0
 ·simp [sh_text_Quote, ckA_agg, k0, rtn, Ex.zjb]
 by_cases k1 : v.1 = 1
 ·simp [sh_text_Quote, ckA_agg, k1, rtn, zad (ev_num h1 h2)]
 by_cases k2 : v.1 = 2
 ·simp [sh_text_Quote, ckA_agg, k2, rtn, zad (ev_repl h3), zcL, show (Ex.zaI v.2.2).length ≤ 2000000000 by omega, show (Ex.zaI v.2.2).length + 1 ≤ 2000000000 by omega]
 by_cases k3 : v.1 = 3
 ·simp [sh_text_Quote, ckA_agg, k3, rtn, zad (ev_hex h3), zcL, show (Ox.hex v.2.2).length ≤ 2000000000 by omega, show (Ox.hex v.2.2).length + 1 + 1 ≤ 2000000000 by omega]
 ·simp [sh_text_Quote, ckA_agg, k0, k1, k2, k3, rtn]
theorem zhH {e x : Ex.E} {i : Nat} (hx : e.args[i]? = some x) (hl : e.args.length ≤ 1000000) : pr.ev 32 [encE e, .int .i64 (i : Int)] [] = some (.ret (encE x), []) := by
 refine pr.of rfl (by simp only [List.map, (zbF _).rd]; rfl) rfl (zlS _ _ _ _ _) ?_
 have hlt := (List.getElem?_eq_some_iff.1 hx).1
 have hxi : e.args[i] = x := (List.getElem?_eq_some_iff.1 hx).2
 have h10 : cell (encE e) 10 = .list (e.args.map encE) := by cases e; rw [enc_mk]; rfl
 simp [-Int.natCast_add, sh_expr_part, h10, hlt, zdr, hxi, zdF, rtn]
theorem m_not {e : Ex.E} {w : Ex.S} (hw : w.length ≤ 1000) : pr.ev 28 [encE e, .str w] [] = some (.ret (.str (Ex.notW e.neg w)), []) := by
 refine pr.of rfl (by simp only [List.map, (zbF _).rd]; rfl) rfl (zn0 _ _ _ _ _) ?_
 have h8 : cell (encE e) 8 = .bool e.neg := by cases e; rw [enc_mk]; rfl
 cases h : e.neg <;> simp [sh_expr_not, h8, h, Ex.notW, zcL, rtn, show w.length ≤ 2000000000 by omega, show w.length + 1 ≤ 2000000000 by omega, show w.length + 1 + 1 + 1 + 1 + 1 ≤ 2000000000 by omega]
theorem zp4 {e x : Ex.E} {i : Nat} (hx : e.args[i]? = some x) (hl : e.args.length ≤ 1000000) (hT : (Ex.print x).length ≤ 1000000000) (hp : pr.ev 12 [encE x] [] = some (.ret (.str (Ex.print x)), [])) :
  pr.ev 27 [encE e, .int .i64 (i : Int)] [] = some (.ret (.str (if e.kind = 3 then Ex.innU (kO x) else Ex.inn (kO x))), []) := by
 refine pr.of rfl (by simp only [List.map, (zbF _).rd]; rfl) rfl (zkI _ _ _ _ _) ?_
 have h0 : cell (encE e) 0 = .int .i64 e.kind := by cases e; rw [enc_mk]; rfl
 have x0 : cell (encE x) 0 = .int .i64 x.kind := by cases x; rw [enc_mk]; rfl
 have x2 : cell (encE x) 2 = .int .i64 x.val.1 := by cases x; rw [enc_mk]; rfl
 rw [inner_eq]
 have b1 : (Ex.print x).length ≤ 2000000000 := by omega
 have b2 : (Ex.print x).length + 1 ≤ 2000000000 := by omega
 have hsh := fun a b c d => show sh_expr_inner_j1 pr.ev lup a b (.bool true) c d = _ from rfl
 by_cases hk : 3 ≤ x.kind ∧ x.kind ≤ 8
 ·have : x.kind = 3 ∨ x.kind = 4 ∨ x.kind = 5 ∨ x.kind = 6 ∨ x.kind = 7 ∨ x.kind = 8 := by omega
  rw [if_pos (.inl hk)]
  rcases this with h | h | h | h | h | h <;> simp [sh_expr_inner, sh_expr_inner_j1, zad (zhH hx hl), zad hp, x0, h, zcL, b1, b2, rtn]
 ·have n3 : ¬ x.kind = 3 := by omega
  have n4 : ¬ x.kind = 4 := by omega
  have n5 : ¬ x.kind = 5 := by omega
  have n6 : ¬ x.kind = 6 := by omega
  have n7 : ¬ x.kind = 7 := by omega
  have n8 : ¬ x.kind = 8 := by omega
  by_cases k1 : x.kind = 1
  ·by_cases k3 : e.kind = 3
   ·by_cases kv : x.val.1 = 1
    ·simp [sh_expr_inner, sh_expr_inner_j1, sh_expr_inner_j2, zad (zhH hx hl), zad hp, x0, x2, h0, k1, k3, kv, zcL, b1, b2, rtn]
    ·simp [sh_expr_inner, sh_expr_inner_j1, sh_expr_inner_j2, zad (zhH hx hl), zad hp, x0, x2, h0, k1, k3, kv, rtn]
   ·simp [sh_expr_inner, sh_expr_inner_j1, sh_expr_inner_j2, zad (zhH hx hl), zad hp, x0, x2, h0, k1, k3, rtn]
  ·rw [if_neg (by omega)]
   simp [sh_expr_inner, sh_expr_inner_j1, zad (zhH hx hl), zad hp, x0, n3, n4, n5, n6, n7, n8, k1, rtn]
end Go.Proofs.YtakegkongmnekaaGreatDoor
namespace Go.Proofs.YtakegkongmnekaaGreatDoor
open Go.RowKit
open Vm
variable [Gl]
def PrA (l : List Ex.E) : Prop := ∀ x ∈ l, pr.ev 12 [encE x] [] = some (.ret (.str (Ex.print x)), [])
theorem zhJ (l : List Ex.E) (hl : l.length ≤ 900000) (hp : PrA l) (hlen : (Lib.join (l.map Ex.print) [44, 32]).length ≤ 100000000) : ∀ (n i : Nat), i + n = l.length →
  lup Out (sh_expr_listed_l0 pr.ev lup) [.list (l.map encE), .int .i64 l.length, .int .i64 (i : Int), accL (fun e => Vm.V.str (Ex.print e)) l i] = some (.ret (.str (40 :: (Lib.join (l.map Ex.print) [44, 32] ++ [41]))), [])
 | 0, i, hi => by
  obtain rfl : i = l.length := by omega
  have hj := zmm (l := l.map Ex.print) (s := [44, 32]) (by simp; omega) (by omega)
  rw [List.map_map] at hj
  have b1 : (Lib.join (l.map Ex.print) [44, 32]).length ≤ 2000000000 := by omega
  have b2 : (Lib.join (l.map Ex.print) [44, 32]).length + 1 ≤ 2000000000 := by omega
  have hn := accL_nm (fun e => Vm.V.str (Ex.print e)) l
  rw [zaU]
  have hj2 : pr.ev 53 [.list (l.map fun e => Vm.V.str (Ex.print e)), .str [44, 32]] [] = some (.ret (.str (Lib.join (l.map Ex.print) [44, 32])), []) := hj
  simp [-Int.natCast_add, sh_expr_listed_l0, sh_expr_listed_j1, hn, zad hj2, zcL, b1, b2, rtn]
 | n + 1, i, hi => by
  have h1 : i < l.length := by omega
  have hx := hp _ (List.getElem_mem h1)
  have ih := zhJ l hl hp hlen n (i + 1) (by omega)
  have ha := app_acc 1 16 (fun e => Vm.V.str (Ex.print e)) l i h1 (fun _ => rfl) (by omega)
  rw [zaU]
  simp [-Int.natCast_add, sh_expr_listed_l0, h1, zdr, zdF, zad hx, ha, zde (show i ≤ 1000000 by omega), ih]
theorem zqU (l : List Ex.E) : Ex.commas (Ex.prints l) = Lib.join (l.map Ex.print) [44, 32] := by
 rw [Ex.zhY, Ex.zfY, List.map_map]
 rfl
theorem znj (l : List Ex.E) (hl : l.length ≤ 900000) (hp : PrA l) (hlen : (Ex.commas (Ex.prints l)).length ≤ 100000000) : pr.ev 29 [.list (l.map encE)] [] = some (.ret (.str (40 :: (Ex.commas (Ex.prints l) ++ [41]))), []) := by
 refine pr.of rfl rfl rfl (zjr _ _ _ _) ?_
 rw [zqU] at hlen ⊢
 have h := zhJ l hl hp hlen l.length 0 (by omega)
 simpa [-Int.natCast_add, sh_expr_listed, accL_0] using h
theorem zdJ (k : Int) (o : Ex.S) (v : Ex.V) (t n : Ex.S) (s : Int) (g d : Bool) (a : List Ex.E) : cell (encE (.mk k o v t n s g d a)) 10 = .list (a.map encE) := by rw [enc_mk]; rfl
theorem mk_0 (k : Int) (o : Ex.S) (v : Ex.V) (t n : Ex.S) (s : Int) (g d : Bool) (a : List Ex.E) : cell (encE (.mk k o v t n s g d a)) 0 = .int .i64 k := by rw [enc_mk]; rfl
theorem mk_1 (k : Int) (o : Ex.S) (v : Ex.V) (t n : Ex.S) (s : Int) (g d : Bool) (a : List Ex.E) : cell (encE (.mk k o v t n s g d a)) 1 = .str o := by rw [enc_mk]; rfl
theorem mk_2 (k : Int) (o : Ex.S) (v : Ex.V) (t n : Ex.S) (s : Int) (g d : Bool) (a : List Ex.E) : cell (encE (.mk k o v t n s g d a)) 2 = .int .i64 v.1 := by rw [enc_mk]; rfl
theorem mk_3 (k : Int) (o : Ex.S) (v : Ex.V) (t n : Ex.S) (s : Int) (g d : Bool) (a : List Ex.E) : cell (encE (.mk k o v t n s g d a)) 3 = .int .i64 v.2.1 := by rw [enc_mk]; rfl
theorem mk_4 (k : Int) (o : Ex.S) (v : Ex.V) (t n : Ex.S) (s : Int) (g d : Bool) (a : List Ex.E) : cell (encE (.mk k o v t n s g d a)) 4 = .str v.2.2 := by rw [enc_mk]; rfl
theorem mk_5 (k : Int) (o : Ex.S) (v : Ex.V) (t n : Ex.S) (s : Int) (g d : Bool) (a : List Ex.E) : cell (encE (.mk k o v t n s g d a)) 5 = .str t := by rw [enc_mk]; rfl
theorem mk_6 (k : Int) (o : Ex.S) (v : Ex.V) (t n : Ex.S) (s : Int) (g d : Bool) (a : List Ex.E) : cell (encE (.mk k o v t n s g d a)) 6 = .str n := by rw [enc_mk]; rfl
theorem mk_8 (k : Int) (o : Ex.S) (v : Ex.V) (t n : Ex.S) (s : Int) (g d : Bool) (a : List Ex.E) : cell (encE (.mk k o v t n s g d a)) 8 = .bool g := by rw [enc_mk]; rfl
theorem mk_9 (k : Int) (o : Ex.S) (v : Ex.V) (t n : Ex.S) (s : Int) (g d : Bool) (a : List Ex.E) : cell (encE (.mk k o v t n s g d a)) 9 = .bool d := by rw [enc_mk]; rfl
section
variable (o : Ex.S) (v : Ex.V) (t nm : Ex.S) (s : Int) (g d : Bool)
theorem zp5 (a : List Ex.E) (T : Ex.S) (hT : T.length + o.length ≤ 100000000) (h : pr.ev 29 [.list (a.map encE)] [] = some (.ret (.str T), [])) : pr.ev 31 [encE (.mk 10 o v t nm s g d a)] [] = some (.ret (.str (o ++ T)), []) := by
 refine pr.of rfl (by simp only [List.map, (zbF _).rd]; rfl) rfl (zce _ _ _ _) ?_
 simp [sh_expr_printCall, mk_0, mk_1, zdJ, zad h, zcL, show T.length ≤ 2000000000 by omega, show o.length ≤ 2000000000 by omega, rtn]
theorem zoe (x : Ex.E) (hT : (Ex.print x).length + o.length ≤ 100000000) (h : pr.ev 12 [encE x] [] = some (.ret (.str (Ex.print x)), [])) :
  pr.ev 31 [encE (.mk 11 o v t nm s g d [x])] [] = some (.ret (.str (if d then o ++ [40] ++ Ex.wDistinct ++ [32] ++ Ex.print x ++ [41] else o ++ [40] ++ Ex.print x ++ [41])), []) := by
 refine pr.of rfl (by simp only [List.map, (zbF _).rd]; rfl) rfl (zce _ _ _ _) ?_
 have hpt := zhH (e := .mk 11 o v t nm s g d [x]) (x := x) (i := 0) rfl (by simp [Ex.E.args])
 simp only [Int.natCast_zero] at hpt
 cases d <;> simp (disch := first | omega | (simp only [List.length_append, List.length_cons, List.length_nil]; omega) | fail) [sh_expr_printCall, mk_0, mk_1, mk_9, zdJ, zad hpt, zad h, zcL, rtn, Ex.wDistinct]
theorem zmg (hT : o.length ≤ 100000000) : pr.ev 31 [encE (.mk 11 o v t nm s g d [])] [] = some (.ret (.str (o ++ [40, 42, 41])), []) := by
 refine pr.of rfl (by simp only [List.map, (zbF _).rd]; rfl) rfl (zce _ _ _ _) ?_
 simp [sh_expr_printCall, mk_0, mk_1, zdJ, zcL, show o.length ≤ 2000000000 by omega, rtn]
end
theorem zfu (W U : List (List UInt8)) (h : W.length + U.length ≤ 1000000) : appV 1 16 (.list (W.map .str)) (.list (U.map .str)) = some (.list ((W ++ U).map .str)) := by
 rw [zrf 1 16 _ _ (fun y hy => by obtain ⟨x, _, rfl⟩ := List.mem_map.1 hy; rfl) (by simp; omega), List.map_append]
theorem zhZ : ∀ (n : Nat) (l : List Ex.E) (W : List (List UInt8)), l.length ≤ n → PrA l → W.length + 2 * l.length + 1 ≤ 1000000 → (Lib.join (W ++ Ex.zci (Ex.prints l) ++ [Ex.wEnd]) [32]).length ≤ 1000000000 →
  lup Out (sh_expr_printCase_l0 pr.ev lup) [.list (l.map encE), .list (W.map .str)] = some (.ret (.str (Lib.join (W ++ Ex.zci (Ex.prints l) ++ [Ex.wEnd]) [32])), [])
 | _, [], W, _, hp, hW, hT => by
  have ha := zfu W [Ex.wEnd] (by simp at hW ⊢; omega)
  simp only [Ex.prints, Ex.zci, List.append_nil] at hT ⊢
  have hj := zmm (l := W ++ [Ex.wEnd]) (s := [32]) (by simp at hW ⊢; omega) hT
  rw [zaU]
  simp only [Ex.wEnd, List.map_cons, List.map_nil] at ha hj ⊢
  simp [-Int.natCast_add, -List.map_append, sh_expr_printCase_l0, sh_expr_printCase_j2, sh_expr_printCase_j3, ha, zad hj, rtn]
 | _, [x], W, _, hp, hW, hT => by
  have hx := hp x (by simp)
  have ha1 := zfu W [Ex.zfG, Ex.print x] (by simp at hW ⊢; omega)
  have ha := zfu (W ++ [Ex.zfG, Ex.print x]) [Ex.wEnd] (by simp at hW ⊢; omega)
  have hp1 : Ex.prints [x] = [(x.kind, x.val.1, Ex.print x)] := by rw [Ex.prints, Ex.prints]
  rw [hp1, Ex.zci] at hT ⊢
  dsimp only at hT ⊢
  have hj := zmm (l := W ++ [Ex.zfG, Ex.print x] ++ [Ex.wEnd]) (s := [32]) (by simp at hW ⊢; omega) hT
  have el := zdr [x] 0 .i64
  simp only [Int.natCast_zero, List.map_cons, List.map_nil, List.getElem?_cons_zero, Option.map_some] at el
  rw [zaU]
  simp only [Ex.wEnd, Ex.zfG, List.map_cons, List.map_nil] at ha ha1 hj ⊢
  simp [-Int.natCast_add, -List.map_append, -List.append_assoc, sh_expr_printCase_l0, sh_expr_printCase_j2, sh_expr_printCase_j3, el, zdF, zad hx, ha1, ha, zad hj, rtn]
 | n + 1, x :: y :: r, W, hn, hp, hW, hT => by
  have hx := hp x (by simp)
  have hy := hp y (by simp)
  have ha := zfu W [Ex.zbJ, Ex.print x, Ex.wThen, Ex.print y] (by simp at hW ⊢; omega)
  have hp1 : Ex.prints (x :: y :: r) = (x.kind, x.val.1, Ex.print x) :: (y.kind, y.val.1, Ex.print y) :: Ex.prints r := by rw [Ex.prints, Ex.prints]
  rw [hp1, Ex.zci] at hT ⊢
  dsimp only at hT ⊢
  have e1 : W ++ Ex.zbJ :: Ex.print x :: Ex.wThen :: Ex.print y :: Ex.zci (Ex.prints r) ++ [Ex.wEnd] = W ++ [Ex.zbJ, Ex.print x, Ex.wThen, Ex.print y] ++ Ex.zci (Ex.prints r) ++ [Ex.wEnd] := by simp
  rw [e1] at hT ⊢
  have ih := zhZ n r (W ++ [Ex.zbJ, Ex.print x, Ex.wThen, Ex.print y]) (by simp at hn; omega) (fun z hz => hp z (by simp [hz])) (by simp at hW ⊢; omega) hT
  have el0 := zdr (x :: y :: r) 0 .i64
  have el1 := zdr (x :: y :: r) 1 .i64
  have sl := zjk 11 encE (x :: y :: r) 2 (fun e => zcn e) (by simp)
  have hlen : (1 : Int) < ((r.length + 1 + 1 : Nat) : Int) := by omega
  simp only [Int.natCast_zero, Int.natCast_one, show ((2 : Nat) : Int) = 2 from rfl, List.map_cons, List.getElem?_cons_zero, List.getElem?_cons_succ, Option.map_some, List.drop_succ_cons, List.drop_zero] at el0 el1 sl
  rw [zaU, ← ih]
  simp only [Ex.zbJ, Ex.wThen, List.map_cons, List.map_nil] at ha ⊢
  simp [-Int.natCast_add, -List.map_append, -List.append_assoc, sh_expr_printCase_l0, el0, el1, zdF, zad hx, zad hy, ha, sl, hlen]
theorem m_case (o : Ex.S) (v : Ex.V) (t nm : Ex.S) (s : Int) (g d : Bool) (a : List Ex.E) (hl : a.length ≤ 400000) (hd : d = true → a ≠ []) (hlen : (Ex.zf8 d (Ex.prints a)).length ≤ 100000000) (hp : PrA a) :
  pr.ev 30 [encE (.mk 9 o v t nm s g d a)] [] = some (.ret (.str (Ex.zf8 d (Ex.prints a))), []) := by
 refine pr.of rfl (by simp only [List.map, (zbF _).rd]; rfl) rfl (zgp _ _ _ _) ?_
 rw [Ex.zqX] at hlen ⊢
 cases d
 ·simp only [Bool.false_eq_true, if_false] at hlen ⊢
  have h := zhZ a.length a [Ex.wCase] (Nat.le_refl _) hp (by simp; omega) (by simpa using Nat.le_trans hlen (by omega))
  simp only [Ex.wCase, List.map_cons, List.map_nil] at h ⊢
  simpa [sh_expr_printCase, sh_expr_printCase_j4, sh_expr_printCase_j1, mk_9, zdJ] using h
 ·cases a with
  | nil => exact absurd rfl (hd rfl)
  | cons x r =>
   have hx := hp x (by simp)
   have hk : (Ex.kid (Ex.prints (x :: r)) 0).2.2 = Ex.print x := by rw [Ex.prints]; rfl
   have hdr : (Ex.prints (x :: r)).drop 1 = Ex.prints r := by rw [Ex.prints]; rfl
   simp only [if_true, hk, hdr] at hlen ⊢
   have h := zhZ r.length r [Ex.wCase, Ex.print x] (Nat.le_refl _) (fun z hz => hp z (by simp [hz])) (by simp at hl ⊢; omega) (by simpa using Nat.le_trans hlen (by omega))
   have el0 := zdr (x :: r) 0 .i64
   have sl := zjk 11 encE (x :: r) 1 (fun e => zcn e) (by simp)
   have ha := zfu [Ex.wCase] [Ex.print x] (by simp)
   simp only [Int.natCast_zero, Int.natCast_one, List.map_cons, List.getElem?_cons_zero, Option.map_some, List.drop_succ_cons, List.drop_zero] at el0 sl
   have hlen : (0 : Int) < (r.length : Int) + 1 := by omega
   simp only [Ex.wCase, List.map_cons, List.map_nil] at h ha ⊢
   simpa [-Int.natCast_add, sh_expr_printCase, sh_expr_printCase_j4, sh_expr_printCase_j1, mk_9, zdJ, el0, zdF, zad hx, ha, sl, hlen] using h
end Go.Proofs.YtakegkongmnekaaGreatDoor
namespace Go.Proofs.YtakegkongmnekaaGreatDoor
open Go.RowKit
open Vm
variable [Gl]
section
variable {k : Int} {o : Ex.S} {v : Ex.V} {t nm : Ex.S} {s : Int} {g d : Bool} {a : List Ex.E} {x : Ex.E} {i : Nat}
theorem innU_at (hx : a[i]? = some x) (hl : a.length ≤ 1000000) (hT : (Ex.print x).length ≤ 1000000000) (hp : pr.ev 12 [encE x] [] = some (.ret (.str (Ex.print x)), [])) :
  pr.ev 27 [encE (.mk 3 o v t nm s g d a), .int .i64 (i : Int)] [] = some (.ret (.str (Ex.innU (kO x))), []) := zp4 (e := .mk 3 o v t nm s g d a) hx hl hT hp
theorem zc9 (hk : k ≠ 3) (hx : a[i]? = some x) (hl : a.length ≤ 1000000) (hT : (Ex.print x).length ≤ 1000000000) (hp : pr.ev 12 [encE x] [] = some (.ret (.str (Ex.print x)), [])) :
  pr.ev 27 [encE (.mk k o v t nm s g d a), .int .i64 (i : Int)] [] = some (.ret (.str (Ex.inn (kO x))), []) := by
 have := zp4 (e := .mk k o v t nm s g d a) hx hl hT hp
 rwa [if_neg (show ¬ (Ex.E.mk k o v t nm s g d a).kind = 3 from hk)] at this
end
set_option maxHeartbeats 4000000 in
theorem zp6 : ∀ (n : Nat) (e : Ex.E), Ex.deep e ≤ n → Ex.count e ≤ 400000 → Ex.right e = true → Qt e → (Ex.print e).length ≤ 100000000 → pr.ev 12 [encE e] [] = some (.ret (.str (Ex.print e)), [])
 | 0, .mk k o v t nm s g d a, h, _, _, _, _ => by rw [zcE] at h; omega
 | n + 1, .mk k o v t nm s g d a, h, hc, hR, hQ, hl => by
  rw [zcE] at h
  rw [zdB] at hc
  rw [Ex.right, Bool.and_eq_true, Ex.zfS, List.all_eq_true] at hR
  obtain ⟨hO, hR⟩ := hR
  have hS : shape k d a.length := zpC hO
  have hal := zb1 a
  have ih : ∀ x ∈ a, (Ex.print x).length ≤ 100000000 → pr.ev 12 [encE x] [] = some (.ret (.str (Ex.print x)), []) := fun x hx hl => zp6 n x (by have := zcD hx; omega) (by have := zbI hx; omega) (hR x hx) (hQ.a x hx) hl
  have hv := hQ.v
  have hn := hQ.n
  simp only [Ex.N64, Ex.E.val] at hn hv
  clear hR hQ h hO
  refine pr.of rfl (by simp only [List.map, (zbF _).rd]; rfl) rfl (zkJ _ _ _ _) ?_
  rcases hS with rfl | rfl | ⟨rfl, ha⟩ | ⟨rfl, ha⟩ | ⟨rfl, ha⟩ | ⟨rfl, ha⟩ | ⟨rfl, ha⟩ | ⟨rfl, ha⟩ | ⟨rfl, ha⟩ | ⟨rfl, hd⟩ | ⟨rfl, ha⟩ | ⟨rfl, ha⟩ | ⟨rfl, ha⟩
  ·have hpr : Ex.print (.mk 1 o v t nm s g d a) = Ex.valP v := by rw [Ex.print]; rfl
   rw [hpr] at hl ⊢
   simp [sh_expr_Print, mk_0, mk_2, mk_3, mk_4, zad (m_Quote hn.2 hn.1 hv), rtn]
  ·have hpr : Ex.print (.mk 2 o v t nm s g d a) = if t = [] then nm else t ++ [46] ++ nm := by rw [Ex.print]; rfl
   rw [hpr] at hl ⊢
   by_cases ht : t = []
   ·simp [sh_expr_Print, mk_0, mk_5, mk_6, ht, rtn]
   ·rw [if_neg ht] at hl ⊢
    simp only [List.length_append, List.length_cons, List.length_nil] at hl
    simp (disch := first | omega | (simp only [List.length_append, List.length_cons, List.length_nil]; omega) | fail) [sh_expr_Print, mk_0, mk_5, mk_6, ht, zcL, rtn]
  ·obtain ⟨x, rfl⟩ := List.length_eq_one_iff.1 ha
   have hpr : Ex.print (.mk 3 o v t nm s g d [x]) = if o = Ex.wNot then Ex.wNot ++ [32] ++ Ex.innU (kO x) else o ++ Ex.innU (kO x) := by rw [Ex.print]; rfl
   rw [hpr] at hl ⊢
   have hl2 : (Ex.innU (kO x)).length + o.length ≤ 100000000 := by
    by_cases ho : o = Ex.wNot
    ·rw [if_pos ho] at hl
     rw [ho]; simp only [List.length_append, List.length_cons, List.length_nil] at hl ⊢; omega
    ·rw [if_neg ho] at hl
     simp only [List.length_append, List.length_cons, List.length_nil] at hl
     omega
   clear hl
   have hga := innU_ge (kO x)
   have Ia := innU_at (o := o) (v := v) (t := t) (nm := nm) (s := s) (g := g) (d := d) (a := [x]) (x := x) (i := 0) rfl (by first | (simp; done) | (simp at hal ⊢; omega)) (by dsimp only at hga; omega) (ih x (by simp) (by dsimp only at hga; omega))
   simp only [Int.natCast_zero] at Ia
   generalize Ex.innU (kO x) = T at *
   simp only [Ex.wNot]
   by_cases ho : o = [110, 111, 116]
   ·simp (disch := first | omega | (simp only [List.length_append, List.length_cons, List.length_nil]; omega) | fail) [-Int.natCast_add, sh_expr_Print, sh_expr_Print_j1, mk_0, mk_1, mk_8, zdJ, zcL, rtn, ho, zad Ia]
    subst ho
    simp (disch := first | omega | (simp only [List.length_append, List.length_cons, List.length_nil]; omega) | fail) [-Int.natCast_add, sh_expr_Print, sh_expr_Print_j1, mk_0, mk_1, mk_8, zdJ, zcL, rtn, zad Ia]
   ·simp (disch := first | omega | (simp only [List.length_append, List.length_cons, List.length_nil]; omega) | fail) [-Int.natCast_add, sh_expr_Print, sh_expr_Print_j1, mk_0, mk_1, mk_8, zdJ, zcL, rtn, ho, zad Ia]
  ·obtain ⟨x, y, rfl⟩ := Ex.len2 ha
   have hpr : Ex.print (.mk 4 o v t nm s g d [x, y]) = Ex.inn (kO x) ++ [32] ++ o ++ [32] ++ Ex.inn (kO y) := by rw [Ex.print]; rfl
   rw [hpr] at hl ⊢
   simp only [List.length_append, List.length_cons, List.length_nil] at hl
   have hga := zes (kO x)
   have Ia := zc9 (by decide) (k := 4) (o := o) (v := v) (t := t) (nm := nm) (s := s) (g := g) (d := d) (a := [x, y]) (x := x) (i := 0) rfl (by first | (simp; done) | (simp at hal ⊢; omega)) (by dsimp only at hga; omega) (ih x (by simp) (by dsimp only at hga; omega))
   simp only [Int.natCast_zero] at Ia
   have hgb := zes (kO y)
   have Ib := zc9 (by decide) (k := 4) (o := o) (v := v) (t := t) (nm := nm) (s := s) (g := g) (d := d) (a := [x, y]) (x := y) (i := 1) rfl (by first | (simp; done) | (simp at hal ⊢; omega)) (by dsimp only at hgb; omega) (ih y (by simp) (by dsimp only at hgb; omega))
   simp only [Int.natCast_one] at Ib
   generalize Ex.inn (kO x) = T at *
   generalize Ex.inn (kO y) = U at *
   simp (disch := first | omega | (simp only [List.length_append, List.length_cons, List.length_nil]; omega) | fail) [-Int.natCast_add, sh_expr_Print, sh_expr_Print_j1, mk_0, mk_1, mk_8, zdJ, zcL, rtn, zad Ia, zad Ib]
  ·obtain ⟨x, y, rfl⟩ := Ex.len2 ha
   have hpr : Ex.print (.mk 5 o v t nm s g d [x, y]) = Ex.inn (kO x) ++ [32] ++ Ex.wIs ++ [32] ++ (if g then Ex.wNot ++ [32] else []) ++ Ex.inn (kO y) := by rw [Ex.print]; rfl
   rw [hpr] at hl ⊢
   simp only [List.length_append, List.length_cons, List.length_nil] at hl
   have hga := zes (kO x)
   have Ia := zc9 (by decide) (k := 5) (o := o) (v := v) (t := t) (nm := nm) (s := s) (g := g) (d := d) (a := [x, y]) (x := x) (i := 0) rfl (by first | (simp; done) | (simp at hal ⊢; omega)) (by dsimp only at hga; omega) (ih x (by simp) (by dsimp only at hga; omega))
   simp only [Int.natCast_zero] at Ia
   have hgb := zes (kO y)
   have Ib := zc9 (by decide) (k := 5) (o := o) (v := v) (t := t) (nm := nm) (s := s) (g := g) (d := d) (a := [x, y]) (x := y) (i := 1) rfl (by first | (simp; done) | (simp at hal ⊢; omega)) (by dsimp only at hgb; omega) (ih y (by simp) (by dsimp only at hgb; omega))
   simp only [Int.natCast_one] at Ib
   generalize Ex.inn (kO x) = T at *
   generalize Ex.inn (kO y) = U at *
   cases g <;> simp (disch := first | omega | (simp only [List.length_append, List.length_cons, List.length_nil]; omega) | fail) [-Int.natCast_add, sh_expr_Print, sh_expr_Print_j1, mk_0, mk_1, mk_8, zdJ, zcL, rtn, zad Ia, zad Ib, Ex.wIs, Ex.wNot]
  ·obtain ⟨x, r, rfl⟩ : ∃ x r, a = x :: r := by
    cases a with
    | nil => simp at ha
    | cons x r => exact ⟨x, r, rfl⟩
   have hpr : Ex.print (.mk 6 o v t nm s g d (x :: r)) = Ex.inn (kO x) ++ Ex.notW g [105, 110] ++ [40] ++ Ex.commas (Ex.prints r) ++ [41] := by rw [Ex.print]; rfl
   rw [hpr] at hl ⊢
   simp only [List.length_append, List.length_cons, List.length_nil] at hl
   have hga := zes (kO x)
   have Ia := zc9 (by decide) (k := 6) (o := o) (v := v) (t := t) (nm := nm) (s := s) (g := g) (d := d) (a := (x :: r)) (x := x) (i := 0) rfl (by first | (simp; done) | (simp at hal ⊢; omega)) (by dsimp only at hga; omega) (ih x (by simp) (by dsimp only at hga; omega))
   simp only [Int.natCast_zero] at Ia
   have Fn := m_not (e := .mk 6 o v t nm s g d (x :: r)) (w := [105, 110]) (by decide)
   simp only [Ex.E.neg] at Fn
   have Fl := znj r (by simp at hal; omega) (fun z hz => ih z (by simp [hz]) (by have := zf5 hz; omega)) (by omega)
   have sl := zjk 11 encE (x :: r) 1 (fun e => zcn e) (by simp)
   simp only [Int.natCast_one, List.map_cons, List.drop_succ_cons, List.drop_zero] at sl
   have hmm : zgl .min (.int .i64 1) (.int .i64 ((r.length + 1 : Nat) : Int)) = some (.int .i64 1) := by
    have : ¬ (((r.length + 1 : Nat) : Int) < 1) := by omega
    simp [zgl, -Int.natCast_add, this]
   generalize Ex.inn (kO x) = T at *
   generalize Ex.notW g [105, 110] = U at *
   generalize Ex.commas (Ex.prints r) = W at *
   simp (disch := first | omega | (simp only [List.length_append, List.length_cons, List.length_nil]; omega) | fail) [-Int.natCast_add, sh_expr_Print, sh_expr_Print_j1, mk_0, mk_1, mk_8, zdJ, zcL, rtn, zad Ia, zad Fn, zad Fl, sl, hmm]
  ·obtain ⟨x, y, z, rfl⟩ := Ex.len3 ha
   have hpr : Ex.print (.mk 7 o v t nm s g d [x, y, z]) = Ex.inn (kO x) ++ Ex.notW g [98, 101, 116, 119, 101, 101, 110] ++ Ex.inn (kO y) ++ [32] ++ Ex.wAnd ++ [32] ++ Ex.inn (kO z) := by rw [Ex.print]; rfl
   rw [hpr] at hl ⊢
   simp only [List.length_append, List.length_cons, List.length_nil] at hl
   have hga := zes (kO x)
   have Ia := zc9 (by decide) (k := 7) (o := o) (v := v) (t := t) (nm := nm) (s := s) (g := g) (d := d) (a := [x, y, z]) (x := x) (i := 0) rfl (by first | (simp; done) | (simp at hal ⊢; omega)) (by dsimp only at hga; omega) (ih x (by simp) (by dsimp only at hga; omega))
   simp only [Int.natCast_zero] at Ia
   have hgb := zes (kO y)
   have Ib := zc9 (by decide) (k := 7) (o := o) (v := v) (t := t) (nm := nm) (s := s) (g := g) (d := d) (a := [x, y, z]) (x := y) (i := 1) rfl (by first | (simp; done) | (simp at hal ⊢; omega)) (by dsimp only at hgb; omega) (ih y (by simp) (by dsimp only at hgb; omega))
   simp only [Int.natCast_one] at Ib
   have hgc := zes (kO z)
   have Ic := zc9 (by decide) (k := 7) (o := o) (v := v) (t := t) (nm := nm) (s := s) (g := g) (d := d) (a := [x, y, z]) (x := z) (i := 2) rfl (by first | (simp; done) | (simp at hal ⊢; omega)) (by dsimp only at hgc; omega) (ih z (by simp) (by dsimp only at hgc; omega))
   simp only [show ((2 : Nat) : Int) = 2 from rfl] at Ic
   have Fn := m_not (e := .mk 7 o v t nm s g d [x, y, z]) (w := [98, 101, 116, 119, 101, 101, 110]) (by decide)
   simp only [Ex.E.neg] at Fn
   generalize Ex.inn (kO x) = T at *
   generalize Ex.inn (kO y) = U at *
   generalize Ex.inn (kO z) = W at *
   generalize Ex.notW g [98, 101, 116, 119, 101, 101, 110] = X at *
   simp (disch := first | omega | (simp only [List.length_append, List.length_cons, List.length_nil]; omega) | fail) [-Int.natCast_add, sh_expr_Print, sh_expr_Print_j1, mk_0, mk_1, mk_8, zdJ, zcL, rtn, zad Ia, zad Ib, zad Ic, zad Fn, Ex.wAnd]
  ·obtain ⟨x, y, rfl⟩ := Ex.len2 ha
   have hpr : Ex.print (.mk 8 o v t nm s g d [x, y]) = Ex.inn (kO x) ++ Ex.notW g [108, 105, 107, 101] ++ Ex.inn (kO y) := by rw [Ex.print]; rfl
   rw [hpr] at hl ⊢
   simp only [List.length_append, List.length_cons, List.length_nil] at hl
   have hga := zes (kO x)
   have Ia := zc9 (by decide) (k := 8) (o := o) (v := v) (t := t) (nm := nm) (s := s) (g := g) (d := d) (a := [x, y]) (x := x) (i := 0) rfl (by first | (simp; done) | (simp at hal ⊢; omega)) (by dsimp only at hga; omega) (ih x (by simp) (by dsimp only at hga; omega))
   simp only [Int.natCast_zero] at Ia
   have hgb := zes (kO y)
   have Ib := zc9 (by decide) (k := 8) (o := o) (v := v) (t := t) (nm := nm) (s := s) (g := g) (d := d) (a := [x, y]) (x := y) (i := 1) rfl (by first | (simp; done) | (simp at hal ⊢; omega)) (by dsimp only at hgb; omega) (ih y (by simp) (by dsimp only at hgb; omega))
   simp only [Int.natCast_one] at Ib
   have Fn := m_not (e := .mk 8 o v t nm s g d [x, y]) (w := [108, 105, 107, 101]) (by decide)
   simp only [Ex.E.neg] at Fn
   generalize Ex.inn (kO x) = T at *
   generalize Ex.inn (kO y) = U at *
   generalize Ex.notW g [108, 105, 107, 101] = X at *
   simp (disch := first | omega | (simp only [List.length_append, List.length_cons, List.length_nil]; omega) | fail) [-Int.natCast_add, sh_expr_Print, sh_expr_Print_j1, mk_0, mk_1, mk_8, zdJ, zcL, rtn, zad Ia, zad Ib, zad Fn]
  ·have hpr : Ex.print (.mk 9 o v t nm s g d a) = Ex.zf8 d (Ex.prints a) := by rw [Ex.print]; rfl
   rw [hpr] at hl ⊢
   have F := m_case o v t nm s g d a (by omega) (fun _ h0 => by subst h0; simp at ha) hl (fun x hx => ih x hx (by have := case_mem (d := d) hx; omega))
   simp (disch := first | omega | (simp only [List.length_append, List.length_cons, List.length_nil]; omega) | fail) [-Int.natCast_add, sh_expr_Print, sh_expr_Print_j1, mk_0, mk_1, mk_8, zdJ, zcL, rtn, zad F]
  ·have hpr : Ex.print (.mk 10 o v t nm s g d a) = o ++ [40] ++ Ex.commas (Ex.prints a) ++ [41] := by rw [Ex.print, Ex.pr]; simp [Ex.E.kind, Ex.E.dist, hd, Ex.E.op]
   rw [hpr] at hl ⊢
   simp only [List.length_append, List.length_cons, List.length_nil] at hl
   have Fl := znj a (by omega) (fun z hz => ih z hz (by have := zf5 hz; omega)) (by omega)
   have F := zp5 o v t nm s g d a _ (by simp only [List.length_append, List.length_cons, List.length_nil]; omega) Fl
   simp (disch := first | omega | (simp only [List.length_append, List.length_cons, List.length_nil]; omega) | fail) [-Int.natCast_add, sh_expr_Print, sh_expr_Print_j1, mk_0, mk_1, mk_8, zdJ, zcL, rtn, zad F]
  ·obtain ⟨x, rfl⟩ := List.length_eq_one_iff.1 ha
   have hpr : Ex.print (.mk 11 o v t nm s g d [x]) = if d then o ++ [40] ++ Ex.wDistinct ++ [32] ++ Ex.print x ++ [41] else o ++ [40] ++ Ex.print x ++ [41] := by rw [Ex.print, Ex.prints, Ex.prints, Ex.pr]; cases d <;> simp [Ex.E.kind, Ex.E.dist, Ex.E.op, Ex.commas]
   rw [hpr] at hl ⊢
   have hl2 : (Ex.print x).length + o.length ≤ 100000000 := by
    cases d <;> simp at hl <;> omega
   have F := zoe o v t nm s g d x hl2 (ih x (by simp) (by omega))
   simp (disch := first | omega | (simp only [List.length_append, List.length_cons, List.length_nil]; omega) | fail) [-Int.natCast_add, sh_expr_Print, sh_expr_Print_j1, mk_0, mk_1, mk_8, zdJ, zcL, rtn, zad F]
  ·obtain rfl : a = [] := List.eq_nil_of_length_eq_zero (by first | exact ha | exact ha.1)
   have hpr : Ex.print (.mk 11 o v t nm s g d []) = o ++ [40, 42, 41] := by rw [Ex.print, Ex.prints, Ex.pr]; simp [Ex.E.kind, Ex.E.op]
   rw [hpr] at hl ⊢
   simp only [List.length_append, List.length_cons, List.length_nil] at hl
   have F := zmg o v t nm s g d (by omega)
   simp (disch := first | omega | (simp only [List.length_append, List.length_cons, List.length_nil]; omega) | fail) [-Int.natCast_add, sh_expr_Print, sh_expr_Print_j1, mk_0, mk_1, mk_8, zdJ, zcL, rtn, zad F]
  ·obtain ⟨x, rfl⟩ := List.length_eq_one_iff.1 ha
   have hpr : Ex.print (.mk 12 o v t nm s g d [x]) = Ex.wCast ++ [40] ++ Ex.print x ++ [32] ++ Ex.wAs ++ [32] ++ o ++ [41] := by rw [Ex.print, Ex.prints, Ex.prints, Ex.pr]; simp [Ex.E.kind, Ex.E.op, Ex.kid]
   rw [hpr] at hl ⊢
   simp only [List.length_append, List.length_cons, List.length_nil] at hl
   have hpt := zhH (e := .mk 12 o v t nm s g d [x]) (x := x) (i := 0) rfl (by simp [Ex.E.args])
   simp only [Int.natCast_zero] at hpt
   have Ip := ih x (by simp) (by omega)
   generalize Ex.print x = T at *
   simp (disch := first | omega | (simp only [List.length_append, List.length_cons, List.length_nil]; omega) | fail) [-Int.natCast_add, sh_expr_Print, sh_expr_Print_j1, mk_0, mk_1, mk_8, zdJ, zcL, rtn, zad hpt, zad Ip, Ex.wCast, Ex.wAs]
end Go.Proofs.YtakegkongmnekaaGreatDoor
namespace Go.Proofs.YtakegkongmnekaaGreatDoor
open Go.RowKit
open Vm
variable [Gl]
theorem zp3 : pr.ev 6 [] [] = some (.ret (.bool true), []) := pr.ev_phi 60 (by kernel_rfl)
end Go.Proofs.YtakegkongmnekaaGreatDoor
namespace Go.Proofs.YtakegkongmnekaaGreatDoor
open Go.RowKit
open Vm
variable [Gl]
theorem zln (k : Int) (o : Ex.S) (v : Ex.V) (t n : Ex.S) (s : Int) (g d : Bool) (a : List Ex.E) : cell (encE (.mk k o v t n s g d a)) 10 = .list (a.map encE) := by rw [enc_mk]; rfl
theorem ziy (e f : Ex.E) (a b : List Ex.E) (he : cell (encE e) 10 = .list (a.map encE)) (hf : cell (encE f) 10 = .list (b.map encE)) (hab : a.length = b.length) (ha : a.length ≤ 900000) (h : ∀ x ∈ a, ∀ y ∈ b, pr.ev 22 [encE x, encE y] [] = some (.ret (.bool (Ex.same x y)), [])) : ∀ (n i : Nat), i + n = a.length →
  lup Out (sh_tomeref25_Same_l0 pr.ev lup) [.int .i64 (i : Nat), encE e, encE f] = some (.ret (.bool (Ex.sames (a.drop i) (b.drop i))), [])
 | 0, i, hi => by
  have h1 : ¬ i < a.length := by omega
  have h2 : a.drop i = [] := List.drop_of_length_le (by omega)
  rw [zaU]
  simp [-Int.natCast_add, sh_tomeref25_Same_l0, he, h1, h2, Ex.sames, rtn]
 | n + 1, i, hi => by
  have h1 : i < a.length := by omega
  have h1' : i < b.length := by omega
  have h2 : a.drop i = a[i] :: a.drop (i + 1) := List.drop_eq_getElem_cons h1
  have h3 : b.drop i = b[i] :: b.drop (i + 1) := List.drop_eq_getElem_cons h1'
  have ih := ziy e f a b he hf hab ha h n (i + 1) (by omega)
  have hx := h _ (List.getElem_mem h1) _ (List.getElem_mem h1')
  rw [zaU, h2, h3, Ex.sames]
  cases hs : Ex.same a[i] b[i]
  ·rw [hs] at hx
   simp [-Int.natCast_add, sh_tomeref25_Same_l0, he, hf, h1, h1', zdr, zdF, zad hx, hs, rtn]
  ·rw [hs] at hx
   simp [-Int.natCast_add, sh_tomeref25_Same_l0, he, hf, h1, h1', zdr, zdF, zad hx, hs, zde (show i ≤ 1000000 by omega), ih]
theorem zdX (a b a' b' : Int) (c c' : List UInt8) : binV .neq true true false (.agg [.int .i64 a, .int .i64 b, .str c]) (.agg [.int .i64 a', .int .i64 b', .str c']) = some (.bool (!((a, b, c) == (a', b', c')))) := by
 have h : ((a, b, c) == (a', b', c')) = (a == a' && (b == b' && c == c')) := rfl
 rw [h]
 rfl
theorem r_Same : ∀ (n : Nat) (e f : Ex.E), Ex.deep e ≤ n → Ex.count e ≤ 900000 → Ex.count f ≤ 900000 → Ex.Sh e → Ex.Sh f → pr.ev 22 [encE e, encE f] [] = some (.ret (.bool (Ex.same e f)), [])
 | 0, .mk k o v t nm s g d a, _, h, _, _, _, _ => by rw [zcE] at h; omega
 | n + 1, .mk k o (v1, v2, v3) t nm s g d a, .mk k' o' (v1', v2', v3') t' nm' s' g' d' a', h, hc, hc', hS, hS' => by
  rw [zcE] at h
  rw [zdB] at hc hc'
  have hal := zb1 a
  have hal' := zb1 a'
  have ft : t.length ≤ 1000000 := hS.t
  have fn : nm.length ≤ 1000000 := hS.n
  have ft' : t'.length ≤ 1000000 := hS'.t
  have fn' : nm'.length ≤ 1000000 := hS'.n
  have ih : ∀ x ∈ a, ∀ y ∈ a', pr.ev 22 [encE x, encE y] [] = some (.ret (.bool (Ex.same x y)), []) := fun x hx y hy => r_Same n x y (by have := zcD hx; omega) (by have := zbI hx; omega) (by have := zbI hy; omega) (hS.a x hx) (hS'.a y hy)
  have hl := fun hab => ziy (.mk k o (v1, v2, v3) t nm s g d a) (.mk k' o' (v1', v2', v3') t' nm' s' g' d' a') a a' (zln ..) (zln ..) hab (by omega) ih a.length 0 (by omega)
  refine pr.of rfl (by simp only [List.map, (zbF _).rd]; rfl) rfl (zgo _ _ _ _ _) ?_
  rw [Ex.same]
  rw [enc_mk, enc_mk] at hl ⊢
  by_cases c1 : k = k'
  rotate_left
  ·simp [-Int.natCast_add, sh_tomeref25_Same, sh_tomeref25_Same_j1, ckA_agg, c1, rtn]
  by_cases c2 : o = o'
  rotate_left
  ·simp [-Int.natCast_add, sh_tomeref25_Same, sh_tomeref25_Same_j1, ckA_agg, c1, c2, rtn]
  by_cases c3 : (v1, v2, v3) = (v1', v2', v3')
  rotate_left
  ·have c3' : ((v1, v2, v3) == (v1', v2', v3')) = false := by simpa only [beq_eq_false_iff_ne] using c3
   simp [-Int.natCast_add, -Prod.mk.injEq, sh_tomeref25_Same, sh_tomeref25_Same_j1, ckA_agg, c1, c2, zdX, c3', c3, rtn]
  have c3' : ((v1, v2, v3) == (v1', v2', v3')) = true := by rw [c3]; exact beq_self_eq_true _
  by_cases c4 : Lx.fold t = Lx.fold t'
  rotate_left
  ·simp [-Int.natCast_add, -Prod.mk.injEq, sh_tomeref25_Same, sh_tomeref25_Same_j1, ckA_agg, c1, c2, zdX, c3, c3', zad (zay ft), zad (zay ft'), c4, rtn]
   try simp [c4]
  by_cases c5 : Lx.fold nm = Lx.fold nm'
  rotate_left
  ·simp [-Int.natCast_add, -Prod.mk.injEq, sh_tomeref25_Same, sh_tomeref25_Same_j1, ckA_agg, c1, c2, zdX, c3, c3', zad (zay ft), zad (zay ft'), zad (zay fn), zad (zay fn'), c4, c5, rtn]
   try simp [c5]
  by_cases c6 : s = s'
  rotate_left
  ·simp [-Int.natCast_add, -Prod.mk.injEq, sh_tomeref25_Same, sh_tomeref25_Same_j1, ckA_agg, c1, c2, zdX, c3, c3', zad (zay ft), zad (zay ft'), zad (zay fn), zad (zay fn'), c4, c5, c6, rtn]
   try simp [c6]
  by_cases c7 : g = g'
  rotate_left
  ·simp [-Int.natCast_add, -Prod.mk.injEq, sh_tomeref25_Same, sh_tomeref25_Same_j1, ckA_agg, c1, c2, zdX, c3, c3', zad (zay ft), zad (zay ft'), zad (zay fn), zad (zay fn'), c4, c5, c6, c7, rtn]
   try simp [c7]
  by_cases c8 : d = d'
  rotate_left
  ·simp [-Int.natCast_add, -Prod.mk.injEq, sh_tomeref25_Same, sh_tomeref25_Same_j1, ckA_agg, c1, c2, zdX, c3, c3', zad (zay ft), zad (zay ft'), zad (zay fn), zad (zay fn'), c4, c5, c6, c7, c8, rtn]
   try simp [c8]
  by_cases c9 : a.length = a'.length
  rotate_left
  ·simp [-Int.natCast_add, -Prod.mk.injEq, sh_tomeref25_Same, sh_tomeref25_Same_j1, ckA_agg, c1, c2, zdX, c3, c3', zad (zay ft), zad (zay ft'), zad (zay fn), zad (zay fn'), c4, c5, c6, c7, c8, show ¬ ((a.length : Int) = (a'.length : Int)) by omega, rtn]
   try simp [c9]
  have hll := hl c9
  simp only [List.drop_zero] at hll
  simp only [Prod.mk.injEq] at c3
  obtain ⟨rfl, rfl, rfl⟩ := c3
  subst c1 c2 c6 c7 c8
  simp [-Int.natCast_add, sh_tomeref25_Same, sh_tomeref25_Same_j1, ckA_agg, zdX, zad (zay ft), zad (zay ft'), zad (zay fn), zad (zay fn'), c4, c5, c9, rtn]
  simpa [-Int.natCast_add] using hll
end Go.Proofs.YtakegkongmnekaaGreatDoor
namespace Go.Proofs.YtakegkongmnekaaGreatDoor
open Go.RowKit
open Vm
variable [Gl]
theorem zhS (e f : Ex.E) (a b : List Ex.E) (he : cell (encE e) 10 = .list (a.map encE)) (hf : cell (encE f) 10 = .list (b.map encE)) (hab : a.length = b.length) (ha : a.length ≤ 900000) (h : ∀ x ∈ a, ∀ y ∈ b, pr.ev 9 [encE x, encE y] [] = some (.ret (.bool (Ex.equal x y)), [])) : ∀ (n i : Nat), i + n = a.length →
  lup Out (sh_tomeref25_Equal_l0 pr.ev lup) [.int .i64 (i : Nat), encE e, encE f] = some (.ret (.bool (Ex.equals (a.drop i) (b.drop i))), [])
 | 0, i, hi => by
  have h1 : ¬ i < a.length := by omega
  have h2 : a.drop i = [] := List.drop_of_length_le (by omega)
  rw [zaU]
  simp [-Int.natCast_add, sh_tomeref25_Equal_l0, he, h1, h2, Ex.equals, rtn]
 | n + 1, i, hi => by
  have h1 : i < a.length := by omega
  have h1' : i < b.length := by omega
  have h2 : a.drop i = a[i] :: a.drop (i + 1) := List.drop_eq_getElem_cons h1
  have h3 : b.drop i = b[i] :: b.drop (i + 1) := List.drop_eq_getElem_cons h1'
  have ih := zhS e f a b he hf hab ha h n (i + 1) (by omega)
  have hx := h _ (List.getElem_mem h1) _ (List.getElem_mem h1')
  rw [zaU, h2, h3, Ex.equals]
  cases hs : Ex.equal a[i] b[i]
  ·rw [hs] at hx
   simp [-Int.natCast_add, sh_tomeref25_Equal_l0, he, hf, h1, h1', zdr, zdF, zad hx, hs, rtn]
  ·rw [hs] at hx
   simp [-Int.natCast_add, sh_tomeref25_Equal_l0, he, hf, h1, h1', zdr, zdF, zad hx, hs, zde (show i ≤ 1000000 by omega), ih]
theorem enc_5 (k : Int) (o : Ex.S) (v : Ex.V) (t n : Ex.S) (s : Int) (g d : Bool) (a : List Ex.E) : cell (encE (.mk k o v t n s g d a)) 5 = .str t := by rw [enc_mk]; rfl
theorem enc_6 (k : Int) (o : Ex.S) (v : Ex.V) (t n : Ex.S) (s : Int) (g d : Bool) (a : List Ex.E) : cell (encE (.mk k o v t n s g d a)) 6 = .str n := by rw [enc_mk]; rfl
theorem zjC : ∀ (n : Nat) (e f : Ex.E), Ex.deep e ≤ n → Ex.count e ≤ 900000 → Ex.count f ≤ 900000 → Ex.Sh e → Ex.Sh f → pr.ev 9 [encE e, encE f] [] = some (.ret (.bool (Ex.equal e f)), [])
 | 0, .mk k o v t nm s g d a, _, h, _, _, _, _ => by rw [zcE] at h; omega
 | n + 1, .mk k o v t nm s g d a, .mk k' o' v' t' nm' s' g' d' a', h, hc, hc', hS, hS' => by
  have hsm := r_Same _ _ _ h hc hc' hS hS'
  rw [zcE] at h
  rw [zdB] at hc hc'
  have hal := zb1 a
  have ih : ∀ x ∈ a, ∀ y ∈ a', pr.ev 9 [encE x, encE y] [] = some (.ret (.bool (Ex.equal x y)), []) := fun x hx y hy => zjC n x y (by have := zcD hx; omega) (by have := zbI hx; omega) (by have := zbI hy; omega) (hS.a x hx) (hS'.a y hy)
  have hl := fun hab => zhS (.mk k o v t nm s g d a) (.mk k' o' v' t' nm' s' g' d' a') a a' (zln ..) (zln ..) hab (by omega) ih a.length 0 (by omega)
  refine pr.of rfl (by simp only [List.map, (zbF _).rd]; rfl) rfl (zfN _ _ _ _ _) ?_
  rw [Ex.equal]
  cases hq : Ex.same (.mk k o v t nm s g d a) (.mk k' o' v' t' nm' s' g' d' a')
  ·rw [hq] at hsm
   simp [-Int.natCast_add, sh_tomeref25_Equal, sh_tomeref25_Equal_j1, zad hsm, rtn]
  ·rw [hq] at hsm
   have hlen : a.length = a'.length := by
    rw [Ex.same] at hq
    simp only [Bool.and_eq_true, beq_iff_eq] at hq
    exact hq.2.2.2.2.2.2.2.2.1
   have hll := hl hlen
   simp only [List.drop_zero] at hll
   by_cases c1 : t = t'
   ·subst c1
    by_cases c2 : nm = nm'
    ·subst c2
     simp [-Int.natCast_add, sh_tomeref25_Equal, sh_tomeref25_Equal_j1, zad hsm, enc_5, enc_6]
     exact hll
    ·simp [-Int.natCast_add, sh_tomeref25_Equal, sh_tomeref25_Equal_j1, zad hsm, enc_5, enc_6, c2, rtn]
   ·simp [-Int.natCast_add, sh_tomeref25_Equal, sh_tomeref25_Equal_j1, zad hsm, enc_5, enc_6, c1, rtn]
end Go.Proofs.YtakegkongmnekaaGreatDoor
namespace Go.Proofs.YtakegkongmnekaaGreatDoor
open Go.RowKit
open Vm
variable [Gl]
theorem zi5 (s : List UInt8) (l : List (List UInt8)) (hl : l.length ≤ 1000) : ∀ (n i : Nat), i + n = l.length →
  lup Out (sh_tomeref25_among_l0 pr.ev lup) [.str s, .list (l.map str1), .int .i64 (i : Nat)] = some (.ret (.bool ((l.drop i).contains s)), [])
 | 0, i, hi => by
  have h1 : ¬ i < l.length := by omega
  have h2 : l.drop i = [] := List.drop_of_length_le (by omega)
  rw [zaU]
  simp [-Int.natCast_add, sh_tomeref25_among_l0, h1, h2, rtn]
 | n + 1, i, hi => by
  have h1 : i < l.length := by omega
  have h2 : l.drop i = l[i] :: l.drop (i + 1) := List.drop_eq_getElem_cons h1
  have ih := zi5 s l hl n (i + 1) (by omega)
  have el : elV 1 (.list (l.map str1)) (.int .i64 (i : Int)) = some (.str l[i]) := by rw [znz 1 str1 l .i64 i fun _ => rfl]; simp [h1, str1]
  have ld : ∀ x : List UInt8, ldV false 1 (.str x) 0 = some (.str x) := fun _ => rfl
  rw [zaU, h2, List.contains_cons]
  by_cases hs : l[i] = s
  ·simp [-Int.natCast_add, sh_tomeref25_among_l0, h1, el, ld, hs, rtn]
  ·have hs1 : (l[i] == s) = false := by simpa using hs
   have hs2 : (s == l[i]) = false := by simpa using fun h => hs h.symm
   rw [hs2, Bool.false_or, ← ih]
   simp [-Int.natCast_add, sh_tomeref25_among_l0, h1, el, ld, hs, zde (show i ≤ 1000000 by omega)]
theorem zl3 (s : List UInt8) (l : List (List UInt8)) (hl : l.length ≤ 1000) : pr.ev 48 [.str s, .list (l.map .str)] [] = some (.ret (.bool (l.contains s)), []) := by
 refine pr.of rfl rfl rfl (zfL _ _ _ _ _) ?_
 have h := zi5 s l hl l.length 0 (by omega)
 simpa [-Int.natCast_add, sh_tomeref25_among, str1] using h
end Go.Proofs.YtakegkongmnekaaGreatDoor
namespace Go.Proofs.YtakegkongmnekaaGreatDoor
open Go.RowKit
open Vm
variable [Gl]
theorem zpt {s : List UInt8} (hs : s.length ≤ 1000000) : pr.ev 47 [.str s] [] = some (.ret (.bool (Ex.nmE s)), []) := by
 refine pr.of rfl rfl rfl (zgn _ _ _ _) ?_
 unfold Ex.nmE
 cases h : Lx.zdp s <;> simp [sh_tomeref25_name, zad (ev_rName hs), zad (ev_rWord hs), h, rtn]
theorem r_May (v : Ex.V) : pr.ev 46 [.agg [.int .i64 v.1, .int .i64 v.2.1, .str v.2.2]] [] = some (.ret (.bool (Ex.mayV v)), []) := by
 obtain ⟨a, b, c⟩ := v
 refine pr.of rfl rfl rfl (zhh _ _ _ _) ?_
 unfold Ex.mayV
 by_cases h0 : a = 0
 ·by_cases hb : b = 0
  ·by_cases hc : c = []
   ·simp [sh_tomeref03_May, ckA_agg, h0, hb, hc, rtn]
   ·simp [sh_tomeref03_May, ckA_agg, h0, hb, hc, rtn]
  ·simp [sh_tomeref03_May, ckA_agg, h0, hb, rtn]
 by_cases h1 : a = 1
 ·by_cases hc : c = []
  ·simp [sh_tomeref03_May, ckA_agg, h1, hc, rtn]
  ·simp [sh_tomeref03_May, ckA_agg, h1, hc, rtn]
 by_cases hb : b = 0
 ·by_cases hl : c.length ≤ 4096
  ·by_cases h2 : a = 2
   ·simp [sh_tomeref03_May, sh_tomeref03_May_j1, ckA_agg, h2, hb, hl, rtn, show ((c.length : Int) ≤ 4096) from by omega]
   ·by_cases h3 : a = 3
    ·simp [sh_tomeref03_May, sh_tomeref03_May_j1, ckA_agg, h3, hb, hl, rtn, show ((c.length : Int) ≤ 4096) from by omega]
    ·simp [sh_tomeref03_May, sh_tomeref03_May_j1, ckA_agg, h0, h1, h2, h3, rtn]
  ·by_cases h2 : a = 2
   ·simp [sh_tomeref03_May, sh_tomeref03_May_j1, ckA_agg, h2, hb, hl, rtn, show ¬ ((c.length : Int) ≤ 4096) from by omega]
   ·by_cases h3 : a = 3
    ·simp [sh_tomeref03_May, sh_tomeref03_May_j1, ckA_agg, h3, hb, hl, rtn, show ¬ ((c.length : Int) ≤ 4096) from by omega]
    ·simp [sh_tomeref03_May, sh_tomeref03_May_j1, ckA_agg, h0, h1, h2, h3, rtn]
 ·by_cases h2 : a = 2
  ·simp [sh_tomeref03_May, sh_tomeref03_May_j1, ckA_agg, h2, hb, rtn]
  ·by_cases h3 : a = 3
   ·simp [sh_tomeref03_May, sh_tomeref03_May_j1, ckA_agg, h3, hb, rtn]
   ·simp [sh_tomeref03_May, sh_tomeref03_May_j1, ckA_agg, h0, h1, h2, h3, rtn]
end Go.Proofs.YtakegkongmnekaaGreatDoor
namespace Go.Proofs.YtakegkongmnekaaGreatDoor
open Go.RowKit
open Vm
variable [Gl]
inductive So : Ex.E → Prop
 | mk {k : Int} {o : Ex.S} {v : Ex.V} {t n : Ex.S} {s : Int} {g d : Bool} {a : List Ex.E} : o.length ≤ 1000000 → (∀ x ∈ a, So x) → So (.mk k o v t n s g d a)
theorem So.o {e : Ex.E} (h : So e) : e.op.length ≤ 1000000 := by cases h; assumption
theorem So.a {e : Ex.E} (h : So e) : ∀ x ∈ e.args, So x := by cases h; assumption
def OwnR : Prop := ∀ e : Ex.E, Ex.count e ≤ 900000 → Ex.Sh e → e.op.length ≤ 1000000 → pr.ev 25 [encE e] [] = some (.ret (.bool (Ex.own e)), [])
theorem zhq (e : Ex.E) (a : List Ex.E) (he : cell (encE e) 10 = .list (a.map encE)) (ha : a.length ≤ 900000) (h : ∀ x ∈ a, pr.ev 11 [encE x] [] = some (.ret (.bool (Ex.right x)), [])) : ∀ (n i : Nat), i + n = a.length →
  lup Out (sh_tomeref25_Right_l0 pr.ev lup) [.int .i64 (i : Nat), encE e] = some (.ret (.bool (Ex.rights (a.drop i))), [])
 | 0, i, hi => by
  have h1 : ¬ i < a.length := by omega
  have h2 : a.drop i = [] := List.drop_of_length_le (by omega)
  rw [zaU]
  simp [-Int.natCast_add, sh_tomeref25_Right_l0, he, h1, h2, Ex.rights, rtn]
 | n + 1, i, hi => by
  have h1 : i < a.length := by omega
  have h2 : a.drop i = a[i] :: a.drop (i + 1) := List.drop_eq_getElem_cons h1
  have ih := zhq e a he ha h n (i + 1) (by omega)
  have hx := h _ (List.getElem_mem h1)
  rw [zaU, h2, Ex.rights]
  cases hs : Ex.right a[i]
  ·rw [hs] at hx
   simp [-Int.natCast_add, sh_tomeref25_Right_l0, he, h1, zdr, zdF, zad hx, rtn]
  ·rw [hs] at hx
   simp [-Int.natCast_add, sh_tomeref25_Right_l0, he, h1, zdr, zdF, zad hx, zde (show i ≤ 1000000 by omega), ih]
theorem zpu (ho : OwnR) : ∀ (n : Nat) (e : Ex.E), Ex.deep e ≤ n → Ex.count e ≤ 900000 → Ex.Sh e → So e → pr.ev 11 [encE e] [] = some (.ret (.bool (Ex.right e)), [])
 | 0, .mk k o v t nm s g d a, h, _, _, _ => by rw [zcE] at h; omega
 | n + 1, .mk k o v t nm s g d a, h, hc, hS, hO => by
  have hown := ho _ hc hS hO.o
  rw [zcE] at h
  rw [zdB] at hc
  have hal := zb1 a
  have ih : ∀ x ∈ a, pr.ev 11 [encE x] [] = some (.ret (.bool (Ex.right x)), []) := fun x hx => zpu ho n x (by have := zcD hx; omega) (by have := zbI hx; omega) (hS.a x hx) (hO.a x hx)
  have hl := zhq (.mk k o v t nm s g d a) a (zln ..) (by omega) ih a.length 0 (by omega)
  simp only [List.drop_zero] at hl
  refine pr.of rfl (by simp only [List.map, (zbF _).rd]; rfl) rfl (zfM _ _ _ _) ?_
  rw [Ex.right]
  cases hq : Ex.own (.mk k o v t nm s g d a)
  ·rw [hq] at hown
   simp [-Int.natCast_add, sh_tomeref25_Right, zad hown, rtn]
  ·rw [hq] at hown
   simp [-Int.natCast_add, sh_tomeref25_Right, zad hown]
   exact hl
end Go.Proofs.YtakegkongmnekaaGreatDoor
namespace Go.Proofs.YtakegkongmnekaaGreatDoor
open Go.RowKit
open Vm
variable [Gl]
def eqW (k : Int) (o : Ex.S) (v : Ex.V) (t m : Ex.S) (s : Int) (g d : Bool) (k' : Int) (o' : Ex.S) (v' : Ex.V) (t' m' : Ex.S) (s' : Int) (g' d' : Bool) : Bool :=
 k == k' && (o == o' && (v == v' && (s == s' && (g == g' && (d == d' && (t == t' && m == m'))))))
theorem eq_nil (k : Int) (o : Ex.S) (v : Ex.V) (t m : Ex.S) (s : Int) (g d : Bool) (k' : Int) (o' : Ex.S) (v' : Ex.V) (t' m' : Ex.S) (s' : Int) (g' d' : Bool) (ht : t.length ≤ 1000000) (hm : m.length ≤ 1000000) (ht' : t'.length ≤ 1000000) (hm' : m'.length ≤ 1000000) :
  pr.ev 9 [encE (.mk k o v t m s g d []), encE (.mk k' o' v' t' m' s' g' d' [])] [] = some (.ret (.bool (eqW k o v t m s g d k' o' v' t' m' s' g' d')), []) := by
 rw [zjC 1 _ _ (by rw [Ex.deep, Ex.deeps]; exact Nat.le_refl _) (by rw [zdB, Ex.counts]; omega) (by rw [zdB, Ex.counts]; omega) (Ex.Sh.mk (e := .mk k o v t m s g d []) ht hm (fun x hx => by cases hx)) (Ex.Sh.mk (e := .mk k' o' v' t' m' s' g' d' []) ht' hm' (fun x hx => by cases hx))]
 congr 4
 rw [Ex.equal, Ex.same, Ex.sames, Ex.equals, eqW]
 by_cases h1 : t = t'
 ·by_cases h2 : m = m'
  ·subst h1 h2
   simp
  ·rw [show (m == m') = false by simpa using h2]; simp
 ·rw [show (t == t') = false by simpa using h1]; simp
theorem zbn (b : Bool) (k : Int) (o : Ex.S) (v1 v2 : Int) (v3 : Ex.S) (t m : Ex.S) (s : Int) (g d : Bool) (a : List Ex.E) (k' : Int) (o' : Ex.S) (va vb : Int) (vc : Ex.S) (t' m' : Ex.S) (s' : Int) (g' d' : Bool) (ht : t.length ≤ 1000000) (hm : m.length ≤ 1000000) (ht' : t'.length ≤ 1000000) (hm' : m'.length ≤ 1000000) :
  sh_tomeref25_own_j1 pr.ev lup (.bool b) (.agg [.int .i64 k, .str o, .int .i64 v1, .int .i64 v2, .str v3, .str t, .str m, .int .i64 s, .bool g, .bool d, .list (a.map encE)]) (.agg [.int .i64 k', .str o', .int .i64 va, .int .i64 vb, .str vc, .str t', .str m', .int .i64 s', .bool g', .bool d', .nils]) =
   some (.ret (.bool (b && eqW k o (v1, v2, v3) t m s g d k' o' (va, vb, vc) t' m' s' g' d')), []) := by
 have h := eq_nil k o (v1, v2, v3) t m s g d k' o' (va, vb, vc) t' m' s' g' d' ht hm ht' hm'
 rw [enc_mk, enc_mk] at h
 cases b
 ·simp [sh_tomeref25_own_j1, rtn]
 ·simp only [List.map_nil] at h
  simp [sh_tomeref25_own_j1, zad h, rtn]
theorem own_ok : OwnR := by
 intro e hc hS hO
 cases e with
 | mk k o v t m s g d a =>
 obtain ⟨va, vb, vc⟩ := v
 have ht : t.length ≤ 1000000 := hS.t
 have hm : m.length ≤ 1000000 := hS.n
 replace hO : o.length ≤ 1000000 := hO
 refine pr.of rfl (by simp only [List.map, (zbF _).rd]; rfl) rfl (zhg _ _ _ _) ?_
 have h0 : ([] : Ex.S).length ≤ 1000000 := Nat.zero_le _
 rw [show Ex.own (.mk k o (va, vb, vc) t m s g d a) = Ex.ownF k o (va, vb, vc) t m g d a.length from rfl, enc_mk]
 unfold Ex.ownF
 by_cases k1 : k = 1
 ·subst k1
  have h1 := r_May (va, vb, vc)
  by_cases hn : a.length = 0
  ·cases hmv : Ex.mayV (va, vb, vc)
   ·rw [hmv] at h1
    simp [-Int.natCast_add, sh_tomeref25_own, sh_tomeref25_own_j2, ckA_agg, hn, zbn, ht, hm, zad h1, hmv]
   ·rw [hmv] at h1
    by_cases hv1 : va = 1
    ·subst hv1
     by_cases hv2 : vb = -9223372036854775808
     ·subst hv2
      simp [-Int.natCast_add, sh_tomeref25_own, sh_tomeref25_own_j2, ckA_agg, hn, zbn, ht, hm, zad h1, hmv, eqW, Ex.lowI]
     ·have hb2 : (vb == -9223372036854775808) = false := by simpa using hv2
      simp [-Int.natCast_add, sh_tomeref25_own, sh_tomeref25_own_j2, ckA_agg, hn, zbn, ht, hm, zad h1, hmv, hv2, eqW, Ex.lowI]
      simp [hb2, Ex.v0, Bool.and_assoc, Bool.and_comm, Bool.and_left_comm]
    ·simp [-Int.natCast_add, sh_tomeref25_own, sh_tomeref25_own_j2, ckA_agg, hn, zbn, ht, hm, zad h1, hmv, hv1, eqW, Ex.lowI]
     simp [Ex.v0, Bool.and_assoc, Bool.and_comm, Bool.and_left_comm]
  ·simp [-Int.natCast_add, sh_tomeref25_own, sh_tomeref25_own_j2, ckA_agg, hn, zbn, ht, hm]
 by_cases k2 : k = 2
 ·subst k2
  have h1 := zpt hm
  have h2 := zpt ht
  by_cases hn : a.length = 0
  ·cases hmv : Ex.nmE m
   ·rw [hmv] at h1
    simp [-Int.natCast_add, sh_tomeref25_own, sh_tomeref25_own_j2, ckA_agg, hn, zbn, ht, hm, zad h1, hmv]
   ·rw [hmv] at h1
    by_cases hv1 : t = []
    ·simp [-Int.natCast_add, sh_tomeref25_own, sh_tomeref25_own_j2, ckA_agg, hn, zbn, ht, hm, zad h1, hmv, hv1, eqW]
     simp [Ex.v0, Bool.and_assoc, Bool.and_comm, Bool.and_left_comm]
    ·have hv2 : List.isEmpty t = false := by simpa using hv1
     simp [-Int.natCast_add, sh_tomeref25_own, sh_tomeref25_own_j2, ckA_agg, hn, zbn, ht, hm, zad h1, zad h2, hmv, hv1, eqW]
     simp [Ex.v0, Bool.and_assoc, Bool.and_comm, Bool.and_left_comm, hv2]
  ·simp [-Int.natCast_add, sh_tomeref25_own, sh_tomeref25_own_j2, ckA_agg, hn, zbn, ht, hm]
 by_cases k3 : k = 3
 ·subst k3
  have h1 := zl3 o Ex.uns (by decide)
  generalize Ex.uns.contains o = B at h1 ⊢
  simp only [Ex.uns, Ex.za3, Ex.zcB, Ex.wNot, List.map] at h1
  by_cases hn : a.length = 1
  ·simp [-Int.natCast_add, sh_tomeref25_own, sh_tomeref25_own_j2, ckA_agg, hn, zbn, ht, hm, zad h1, eqW]
   simp [Ex.v0, Bool.and_assoc, Bool.and_comm, Bool.and_left_comm]
  ·have hni : ¬ (a.length : Int) = 1 := by omega
   simp [-Int.natCast_add, sh_tomeref25_own, sh_tomeref25_own_j2, ckA_agg, hn, zbn, ht, hm, hni]
 by_cases k4 : k = 4
 ·subst k4
  have h1 := zl3 o Ex.bins (by decide)
  generalize Ex.bins.contains o = B at h1 ⊢
  simp only [Ex.bins, Ex.za3, Ex.zcB, Ex.zcb, Ex.wAnd, Ex.wOr, List.map] at h1
  by_cases hn : a.length = 2
  ·simp [-Int.natCast_add, sh_tomeref25_own, sh_tomeref25_own_j2, ckA_agg, hn, zbn, ht, hm, zad h1, eqW]
   simp [Ex.v0, Bool.and_assoc, Bool.and_comm, Bool.and_left_comm]
  ·have hni : ¬ (a.length : Int) = 2 := by omega
   simp [-Int.natCast_add, sh_tomeref25_own, sh_tomeref25_own_j2, ckA_agg, hn, zbn, ht, hm, hni]
 by_cases k5 : k = 5
 ·subst k5
  by_cases hn : a.length = 2
  ·simp [-Int.natCast_add, sh_tomeref25_own, sh_tomeref25_own_j2, ckA_agg, hn, zbn, ht, hm, eqW]
   simp [Ex.v0, Bool.and_assoc, Bool.and_comm, Bool.and_left_comm]
  ·have hni : ¬ (a.length : Int) = 2 := by omega
   simp [-Int.natCast_add, sh_tomeref25_own, sh_tomeref25_own_j2, ckA_agg, hn, zbn, ht, hm, hni, eqW]
 by_cases k8 : k = 8
 ·subst k8
  by_cases hn : a.length = 2
  ·simp [-Int.natCast_add, sh_tomeref25_own, sh_tomeref25_own_j2, ckA_agg, hn, zbn, ht, hm, eqW]
   simp [Ex.v0, Bool.and_assoc, Bool.and_comm, Bool.and_left_comm]
  ·have hni : ¬ (a.length : Int) = 2 := by omega
   simp [-Int.natCast_add, sh_tomeref25_own, sh_tomeref25_own_j2, ckA_agg, hn, zbn, ht, hm, hni, eqW]
 by_cases k6 : k = 6
 ·subst k6
  by_cases hn : 2 ≤ a.length
  ·have hni : (2 : Int) ≤ a.length := by omega
   simp [-Int.natCast_add, sh_tomeref25_own, sh_tomeref25_own_j2, ckA_agg, hn, zbn, ht, hm, hni, eqW]
   simp [Ex.v0, Bool.and_assoc, Bool.and_comm, Bool.and_left_comm]
  ·have hni : ¬ (2 : Int) ≤ a.length := by omega
   simp [-Int.natCast_add, sh_tomeref25_own, sh_tomeref25_own_j2, ckA_agg, hn, zbn, ht, hm, hni, eqW]
 by_cases k7 : k = 7
 ·subst k7
  by_cases hn : a.length = 3
  ·simp [-Int.natCast_add, sh_tomeref25_own, sh_tomeref25_own_j2, ckA_agg, hn, zbn, ht, hm, eqW]
   simp [Ex.v0, Bool.and_assoc, Bool.and_comm, Bool.and_left_comm]
  ·have hni : ¬ (a.length : Int) = 3 := by omega
   simp [-Int.natCast_add, sh_tomeref25_own, sh_tomeref25_own_j2, ckA_agg, hn, zbn, ht, hm, hni, eqW]
 by_cases k9 : k = 9
 ·subst k9
  by_cases hn : 2 ≤ a.length
  ·have hni : (2 : Int) ≤ a.length := by omega
   cases d
   ·simp [-Int.natCast_add, sh_tomeref25_own, sh_tomeref25_own_j2, ckA_agg, hn, zbn, ht, hm, hni, eqW]
    simp [Ex.v0, Bool.and_assoc, Bool.and_comm, Bool.and_left_comm]
   ·by_cases hn3 : 3 ≤ a.length
    ·have hnj : (3 : Int) ≤ a.length := by omega
     simp [-Int.natCast_add, sh_tomeref25_own, sh_tomeref25_own_j2, ckA_agg, hn, zbn, ht, hm, hni, hnj, hn3, eqW]
     simp [Ex.v0, Bool.and_assoc, Bool.and_comm, Bool.and_left_comm]
    ·have hnj : ¬ (3 : Int) ≤ a.length := by omega
     simp [-Int.natCast_add, sh_tomeref25_own, sh_tomeref25_own_j2, ckA_agg, hn, zbn, ht, hm, hni, hnj, hn3, eqW]
  ·have hni : ¬ (2 : Int) ≤ a.length := by omega
   simp [-Int.natCast_add, sh_tomeref25_own, sh_tomeref25_own_j2, ckA_agg, hn, zbn, ht, hm, hni, eqW]
 by_cases k10 : k = 10
 ·subst k10
  have h1 := zpt hO
  have h2 := zay hO
  have h3 := zhw o
  have hn := k1
  cases hmv : Ex.nmE o
  ·rw [hmv] at h1
   simp [-Int.natCast_add, sh_tomeref25_own, sh_tomeref25_own_j2, ckA_agg, hn, zbn, ht, hm, zad h1, hmv, eqW]
  ·rw [hmv] at h1
   by_cases hf : Lx.fold o = o
   ·rw [hf] at h2
    simp [-Int.natCast_add, sh_tomeref25_own, sh_tomeref25_own_j2, ckA_agg, hn, zbn, ht, hm, zad h1, zad h2, zad h3, hmv, hf, eqW]
    simp [Ex.v0, Bool.and_assoc, Bool.and_comm, Bool.and_left_comm]
   ·simp [-Int.natCast_add, sh_tomeref25_own, sh_tomeref25_own_j2, ckA_agg, hn, zbn, ht, hm, zad h1, zad h2, zad h3, hmv, hf, eqW]
 by_cases k11 : k = 11
 ·subst k11
  have h3 := zhw o
  cases hag : Ex.aggs.contains o
  ·rw [hag] at h3
   have hn := k1
   simp [-Int.natCast_add, sh_tomeref25_own, sh_tomeref25_own_j2, ckA_agg, hn, zbn, ht, hm, zad h3, eqW, -List.contains_eq_mem, hag]
  ·rw [hag] at h3
   by_cases hn : a.length = 1
   ·simp [-Int.natCast_add, sh_tomeref25_own, sh_tomeref25_own_j2, ckA_agg, hn, zbn, ht, hm, zad h3, eqW, -List.contains_eq_mem, hag]
    simp [Ex.v0, Bool.and_assoc, Bool.and_comm, Bool.and_left_comm]
   ·have hni : ¬ (a.length : Int) = 1 := by omega
    by_cases hn0 : a.length = 0
    ·by_cases ho : o = [99, 111, 117, 110, 116]
     ·subst ho
      simp [-Int.natCast_add, sh_tomeref25_own, sh_tomeref25_own_j2, ckA_agg, hn, zbn, ht, hm, zad h3, eqW, -List.contains_eq_mem, hag, hni, hn0, Ex.wCount]
      simp [Ex.v0, Bool.and_assoc, Bool.and_comm, Bool.and_left_comm]
     ·simp [-Int.natCast_add, sh_tomeref25_own, sh_tomeref25_own_j2, ckA_agg, hn, zbn, ht, hm, zad h3, eqW, -List.contains_eq_mem, hag, hni, hn0, ho, Ex.wCount]
    ·have hnk : ¬ (a.length : Int) = 0 := by omega
     simp [-Int.natCast_add, sh_tomeref25_own, sh_tomeref25_own_j2, ckA_agg, hn, zbn, ht, hm, zad h3, eqW, -List.contains_eq_mem, hag, hni, hnk, hn0]
 by_cases k12 : k = 12
 ·subst k12
  have h1 := zl3 o Ex.zdt (by decide)
  generalize Ex.zdt.contains o = B at h1 ⊢
  simp only [Ex.zdt, List.map] at h1
  by_cases hn : a.length = 1
  ·simp [-Int.natCast_add, sh_tomeref25_own, sh_tomeref25_own_j2, ckA_agg, hn, zbn, ht, hm, zad h1, eqW]
   simp [Ex.v0, Bool.and_assoc, Bool.and_comm, Bool.and_left_comm]
  ·have hni : ¬ (a.length : Int) = 1 := by omega
   simp [-Int.natCast_add, sh_tomeref25_own, sh_tomeref25_own_j2, ckA_agg, hn, zbn, ht, hm, hni]
 ·have hn := k1
  simp [-Int.natCast_add, sh_tomeref25_own, sh_tomeref25_own_j2, ckA_agg, hn, zbn, ht, hm, k1, k2, k3, k4, k5, k6, k7, k8, k9, k10, k11, k12]
end Go.Proofs.YtakegkongmnekaaGreatDoor
namespace Go.Proofs.YtakegkongmnekaaGreatDoor
open Go.RowKit
open Vm
theorem rt_qt {e : Ex.E} (h : Ex.Rt e) : Qt e := by
 have hz : Ex.N64 (Ex.eVal Ex.v0) := ⟨by decide, by decide⟩
 have h0 : (Ex.eVal Ex.v0).val.2.2.length ≤ 1000000 := by decide
 induction h with
 | val v h1 h2 h3 =>
  refine .mk h3 ?_ (fun x hx => by cases hx)
  unfold Ex.mayV at h1
  show v.2.2.length ≤ 1000000
  split at h1
  ·simp only [Bool.and_eq_true, beq_iff_eq] at h1; rw [h1.2]; decide
  ·split at h1
   ·rw [beq_iff_eq.1 h1]; decide
   ·split at h1
    ·simp only [Bool.and_eq_true, decide_eq_true_eq] at h1; omega
    ·cases h1
 | col t n => exact .mk hz h0 (fun x hx => by cases hx)
 | un op a _ _ ih => exact .mk hz h0 (fun x hx => by obtain rfl := List.mem_singleton.1 hx; exact ih)
 | bin op a b _ _ _ i1 i2 => exact .mk hz h0 (fun x hx => by
   simp only [Ex.eBin, Ex.E.args, List.mem_cons, List.not_mem_nil, or_false] at hx
   rcases hx with rfl | rfl <;> assumption)
 | is g a b _ _ i1 i2 => exact .mk hz h0 (fun x hx => by
   simp only [Ex.eIs, Ex.E.args, List.mem_cons, List.not_mem_nil, or_false] at hx
   rcases hx with rfl | rfl <;> assumption)
 | in_ g a l _ _ _ i1 i2 => exact .mk hz h0 (fun x hx => by
   simp only [Ex.eIn, Ex.E.args, List.mem_cons] at hx
   rcases hx with rfl | hx
   ·assumption
   ·exact i2 x hx)
 | btw g a b c _ _ _ i1 i2 i3 => exact .mk hz h0 (fun x hx => by
   simp only [Ex.eBtw, Ex.E.args, List.mem_cons, List.not_mem_nil, or_false] at hx
   rcases hx with rfl | rfl | rfl <;> assumption)
 | like g a b _ _ i1 i2 => exact .mk hz h0 (fun x hx => by
   simp only [Ex.zco, Ex.E.args, List.mem_cons, List.not_mem_nil, or_false] at hx
   rcases hx with rfl | rfl <;> assumption)
 | case d l _ _ _ ih => exact .mk hz h0 ih
 | fn op l _ _ _ _ ih => exact .mk hz h0 ih
 | agg op d a _ _ ih => exact .mk hz h0 (fun x hx => by obtain rfl := List.mem_singleton.1 hx; exact ih)
 | star => exact .mk hz h0 (fun x hx => by cases hx)
 | cast op a _ _ ih => exact .mk hz h0 (fun x hx => by obtain rfl := List.mem_singleton.1 hx; exact ih)
theorem zgN {l : List Ex.S} (h : ∀ x ∈ l, x.length ≤ 1000) {s : Ex.S} (hs : s ∈ l) : s.length ≤ 1000000 := by have := h s hs; omega
theorem rt_so {e : Ex.E} (h : Ex.Rt e) : So e := by
 induction h with
 | val v => exact .mk (Nat.zero_le _) (fun x hx => by cases hx)
 | col t n => exact .mk (Nat.zero_le _) (fun x hx => by cases hx)
 | un op a h1 _ ih => exact .mk (zgN (by decide) h1) (fun x hx => by obtain rfl := List.mem_singleton.1 hx; exact ih)
 | bin op a b h1 _ _ i1 i2 => exact .mk (zgN (by decide) h1) (fun x hx => by
   simp only [List.mem_cons, List.not_mem_nil, or_false] at hx
   rcases hx with rfl | rfl <;> assumption)
 | is g a b _ _ i1 i2 => exact .mk (Nat.zero_le _) (fun x hx => by
   simp only [List.mem_cons, List.not_mem_nil, or_false] at hx
   rcases hx with rfl | rfl <;> assumption)
 | in_ g a l _ _ _ i1 i2 => exact .mk (Nat.zero_le _) (fun x hx => by
   simp only [List.mem_cons] at hx
   rcases hx with rfl | hx
   ·assumption
   ·exact i2 x hx)
 | btw g a b c _ _ _ i1 i2 i3 => exact .mk (Nat.zero_le _) (fun x hx => by
   simp only [List.mem_cons, List.not_mem_nil, or_false] at hx
   rcases hx with rfl | rfl | rfl <;> assumption)
 | like g a b _ _ i1 i2 => exact .mk (Nat.zero_le _) (fun x hx => by
   simp only [List.mem_cons, List.not_mem_nil, or_false] at hx
   rcases hx with rfl | rfl <;> assumption)
 | case d l _ _ _ ih => exact .mk (Nat.zero_le _) ih
 | fn op l h1 _ _ _ ih => exact .mk (by have := Ex.zme h1; omega) ih
 | agg op d a h1 _ ih => exact .mk (zgN (l := Ex.aggs) (by decide) (by simpa using h1)) (fun x hx => by obtain rfl := List.mem_singleton.1 hx; exact ih)
 | star => exact .mk (by decide) (fun x hx => by cases hx)
 | cast op a h1 _ ih => exact .mk (zgN (l := Ex.zdt) (by decide) (by simpa using h1)) (fun x hx => by obtain rfl := List.mem_singleton.1 hx; exact ih)
variable [Gl]
theorem zmh (s : List UInt8) : pr.ev 5 [.str s] [] = some (.ret (.bool true), []) := by
 refine pr.of rfl rfl rfl (zdR _ _ _ _) ?_
 by_cases hs : s.length ≤ 1024
 ·have hsi : ¬ ((1024 : Int) < s.length) := by omega
  obtain ⟨e, n, no, h⟩ := Ex.zpH s
  have hof := m_Of (by omega) h
  obtain ⟨k1, k2, k3, k4⟩ := Ex.zpI h
  rw [ofV] at hof
  by_cases hno : no = 0
  ·obtain ⟨r1, r2, r3, r4, r5⟩ := k4 hno
   subst hno
   have hg : Ex.G e = (Ex.print e).length + 14 := rfl
   have htk : Ex.Tk e = (Ex.toks (Ex.pcs e)).length + 2 := rfl
   have hR := zpu own_ok (Ex.deep e) e (Nat.le_refl _) (by omega) k1 (rt_so r1)
   rw [r1.right] at hR
   have hD := zp7 (Ex.deep e) e (Nat.le_refl _) (by omega)
   have hP := zp6 (Ex.deep e) e (Nat.le_refl _) (by omega) r1.right (rt_qt r1) (by omega)
   have hO2 := m_Of (s := Ex.print e) (by omega) ((Ex.of_print r1 (by omega) (by omega)).2 r2)
   rw [ofV] at hO2
   have hE := zjC (Ex.deep e) e e (Nat.le_refl _) (by omega) (by omega) k1 k1
   rw [Ex.zf3] at hE
   have hdi : ¬ ((24 : Int) < (Ex.deep e : Int)) := by omega
   simp [-Int.natCast_add, sh_tomelaw25_ExprAgain, sh_tomelaw25_ExprAgain_j1, hsi, zad hof, zad hR, zad hD, zad hP, zad hO2, zad hE, zad zp3, hdi, rtn]
  ·obtain rfl := k3 hno
   have hE := zjC (Ex.deep Ex.e0) Ex.e0 Ex.e0 (Nat.le_refl _) (by decide) (by decide) Ex.sh_e0 Ex.sh_e0
   rw [Ex.zf3, ← e0_v] at hE
   rw [← e0_v] at hof
   simp [-Int.natCast_add, sh_tomelaw25_ExprAgain, sh_tomelaw25_ExprAgain_j1, hsi, zad hof, ckA_agg, hno, zad zp3, zad hE, rtn]
 ·have hsi : ((1024 : Int) < s.length) := by omega
  simp [sh_tomelaw25_ExprAgain, hsi, zad zp3, rtn]
end Go.Proofs.YtakegkongmnekaaGreatDoor
