/- Part of the proof: see the last text. -/
import Derived.Test.YtakegkongmnekaaGreatDoorP22
import Derived.Test.YtakegkongmnekaaGreatDoorP24
import Derived.Test.YtakegkongmnekaaGreatDoorP25
set_option maxRecDepth 20000
set_option linter.unusedVariables false
set_option linter.unusedSimpArgs false
set_option linter.unusedSectionVars false
namespace Go.Proofs.YtakegkongmnekaaGreatDoor
open Go.RowKit
open Vm
variable [Gl]
theorem zbL (k : Int) (o : Ex.S) (v : Ex.V) (t n : Ex.S) (s : Int) (g d : Bool) (a : List Ex.E) : Ex.deep (.mk k o v t n s g d a) = Ex.deeps a + 1 := by rw [Ex.deep]
theorem zcY (k : Int) (o : Ex.S) (v : Ex.V) (t n : Ex.S) (s : Int) (g d : Bool) (a : List Ex.E) : Ex.count (.mk k o v t n s g d a) = Ex.counts a + 1 := by rw [Ex.count]
theorem zb1 : ∀ {l : List Ex.E} {x : Ex.E},x ∈ l → Ex.deep x ≤ Ex.deeps l
 | a :: l,x,h => by
  rw [Ex.deeps]
  rcases List.mem_cons.1 h with rfl | h
  ·omega
  ·have := zb1 h;omega
theorem zty (e : Ex.E) : 1 ≤ Ex.count e := by cases e;rw [Ex.count];omega
theorem zbQ : ∀ {l : List Ex.E} {x : Ex.E},x ∈ l → Ex.count x ≤ Ex.counts l
 | a :: l,x,h => by
  rw [Ex.counts]
  rcases List.mem_cons.1 h with rfl | h
  ·omega
  ·have := zbQ h;omega
theorem zbR : ∀ l : List Ex.E,l.length ≤ Ex.counts l
 | [] => Nat.le_refl _
 | a :: l => by
  have := zbR l
  have := zty a
  rw [Ex.counts,List.length_cons];omega
mutual
theorem zq1 : ∀ e,Ex.deep e ≤ Ex.count e
 | .mk _ _ _ _ _ _ _ _ a => by
  rw [Ex.deep,Ex.count]
  have := zeT a
  omega
theorem zeT : ∀ l,Ex.deeps l ≤ Ex.counts l
 | [] => Nat.le_refl _
 | e :: r => by
  rw [Ex.deeps,Ex.counts]
  have := zq1 e
  have := zeT r
  omega
end
theorem zbt (l : List Ex.E) (i : Nat) (k : IntKind) : elV 11 (.list (l.map encE)) (.int k (i : Int)) = (l[i]?).map encE := zp9 11 encE l k i fun e => zdr e
theorem zbg (e : Ex.E) : ldV true 11 (encE e) 0 = some (encE e) := by
 have h := zdr e
 cases e
 rw [enc_mk] at h ⊢
 unfold ldV
 rw [if_pos ⟨rfl,rfl,h⟩]
theorem zlo (e : Ex.E) (a : List Ex.E) (he : cell (encE e) 10 = .list (a.map encE)) (ha : a.length ≤ 900000) (hd : ∀ x ∈ a,Ex.deep x ≤ 900000) (h : ∀ x ∈ a,pr.ev 14 [encE x] [] = some (.ret (.int .i64 (Ex.deep x : Nat)),[])) : ∀ (n i m : Nat),i + n = a.length → m ≤ 900000 →
  lup Out (zb8 pr.ev lup) [.int .i64 (m : Nat),.int .i64 (i : Nat),encE e] = some (.ret (.int .i64 ((max m (Ex.deeps (a.drop i)) + 1 : Nat) : Int)),[])
 | 0,i,m,hi,hm => by
  have h1 : ¬ i < a.length := by omega
  have h2 : a.drop i = [] := List.drop_of_length_le (by omega)
  rw [zaX]
  simp [-Int.natCast_add,zb8,zd0,he,h1,h2,Ex.deeps,rtn,zcP (show m ≤ 1000000 by omega)]
 | n + 1,i,m,hi,hm => by
  have h1 : i < a.length := by omega
  have h2 : a.drop i = a[i] :: a.drop (i + 1) := List.drop_eq_getElem_cons h1
  have hmem : a[i] ∈ a := List.getElem_mem h1
  have hdi := hd _ hmem
  have ih := zlo e a he ha hd h n (i + 1) (max m (Ex.deep a[i])) (by omega) (by omega)
  have hmx : max (m : Int) (Ex.deep a[i] : Int) = ((max m (Ex.deep a[i]) : Nat) : Int) := by omega
  rw [zaX,h2,Ex.deeps,← Nat.max_assoc,← ih]
  simp [-Int.natCast_add,zb8,he,h1,zbt,zbg,zab (h _ hmem),zcP (show i ≤ 1000000 by omega),hmx]
theorem r_Deep : ∀ (n : Nat) (e : Ex.E),Ex.deep e ≤ n → Ex.count e ≤ 900000 → pr.ev 14 [encE e] [] = some (.ret (.int .i64 (Ex.deep e : Nat)),[])
 | 0,.mk k o v t nm s g d a,h,_ => by rw [zbL] at h;omega
 | n + 1,.mk k o v t nm s g d a,h,hc => by
  rw [zbL] at h
  rw [zcY] at hc
  have hal := zbR a
  have hdc := zeT a
  have ih : ∀ x ∈ a,pr.ev 14 [encE x] [] = some (.ret (.int .i64 (Ex.deep x : Nat)),[]) := fun x hx => r_Deep n x (by have := zb1 hx;omega) (by have := zbQ hx;omega)
  have hl := zlo (.mk k o v t nm s g d a) a (by rw [enc_mk];rfl) (by omega) (fun x hx => by have := zb1 hx;omega) ih a.length 0 0 (by omega) (by omega)
  refine pr.of rfl (by simp only [List.map,(zbA _).rd];rfl) rfl (ziw _ _ _ _) ?_
  rw [zbL]
  simpa [-Int.natCast_add,zfe] using hl
def parV (p : Nat) (r : Ex.R) : Vm.V := match r with
 | .ok [e] q => if Ex.deep e ≤ 24 then .tup [encE e,.int .i64 (q : Int),.int .i64 0] else .tup [encE Ex.e0,.int .i64 (p : Int),.int .i64 12]
 | .ok _ _ => .undef
 | .stop q => .tup [encE Ex.e0,.int .i64 (q : Int),.int .i64 20]
theorem oeq_w {v : Vm.V} (h : wf v = true) : oeq (.ret v,[]) (.ret v,[]) = true := by simp [oeq,eeqs,zeF h]
section
variable {s : List UInt8} {l : List Lx.TA} {a : Nat}
theorem zrD : ∀ {l : List Lx.T} {t : Lx.T},t ∈ l → t.text.length ≤ (l.map fun t => t.text.length).sum
 | u :: l,t,h => by
  rw [List.map_cons,List.sum_cons]
  rcases List.mem_cons.1 h with rfl | h
  ·omega
  ·have := zrD h;omega
theorem scan_L (h : Lx.scan s = (l,a,0)) : l.length ≤ 4097 := (Ex.zgY h).2.2.2.2.2
theorem scan_G (hs : s.length ≤ 1000000) (h : Lx.scan s = (l,a,0)) : Good l := fun i t ht => by
 obtain ⟨g1,g2,g3,g4,g5,g6⟩ := Ex.zgY h
 have hm : t.1 ∈ l.map (·.1) := List.mem_map.2 ⟨t,List.mem_of_getElem? ht,rfl⟩
 have hg := g3 _ hm
 have := zrD hm
 exact ⟨by omega,hg.lo,hg.hi⟩
theorem scan_one (h : Lx.scan s = (l,a,0)) {m : Nat} {r : Ex.R} (hr : Ex.run (l.map (·.1)) m (.lev 0) 0 = some r) : (∀ k q,r = .ok k q → ∃ e,k = [e]) ∧ ∀ e q,r = .ok [e] q → Ex.count e ≤ 900000 := by
 obtain ⟨g1,g2,g3,g4,g5,g6⟩ := Ex.zgY h
 refine ⟨fun k q hk => ?_,fun e q hk => ?_⟩
 ·subst hk
  obtain ⟨-,e,he, -⟩ := (Ex.zhV _ g2 m).1 0 0 _ _ hr
  exact ⟨e,he⟩
 ·subst hk
  have := (Ex.run_ok h hr).2.2.2.2
  omega
theorem zk3 {t : Lx.TA} {n i : Nat} (h : l[i]? = some t) : Ex.znm l n i = t.2 := by unfold Ex.znm;rw [h]
theorem zqK {n i : Nat} (h : l[i]? = none) : Ex.znm l n i = n := by unfold Ex.znm;rw [h]
end
end Go.Proofs.YtakegkongmnekaaGreatDoor
namespace Go.Proofs.YtakegkongmnekaaGreatDoor
open Go.RowKit
open Vm
variable [Gl]
theorem zlp (a : List Ex.E) (ha : a.length ≤ 900000) (hd : ∀ x ∈ a,Ex.deep x ≤ 900000) (h : ∀ x ∈ a,pr.ev 16 [encE x] [] = some (.ret (.int .i64 (Ex.deep x : Nat)),[])) : ∀ (n i m : Nat),i + n = a.length → m ≤ 900000 →
  lup Out (zdk pr.ev lup) [.int .i64 (m : Nat),.list (a.map encE),.int .i64 (a.length : Nat),.int .i64 (i : Nat)] = some (.ret (.int .i64 ((max m (Ex.deeps (a.drop i)) + 1 : Nat) : Int)),[])
 | 0,i,m,hi,hm => by
  have h1 : ¬ i < a.length := by omega
  have h2 : a.drop i = [] := List.drop_of_length_le (by omega)
  rw [zaX]
  simp [-Int.natCast_add,zdk,zfP,h1,h2,Ex.deeps,rtn,zcP (show m ≤ 1000000 by omega)]
 | n + 1,i,m,hi,hm => by
  have h1 : i < a.length := by omega
  have h2 : a.drop i = a[i] :: a.drop (i + 1) := List.drop_eq_getElem_cons h1
  have hmem : a[i] ∈ a := List.getElem_mem h1
  have hdi := hd _ hmem
  have ih := zlp a ha hd h n (i + 1) (max m (Ex.deep a[i])) (by omega) (by omega)
  have hmx : max (m : Int) (Ex.deep a[i] : Int) = ((max m (Ex.deep a[i]) : Nat) : Int) := by omega
  rw [zaX,h2,Ex.deeps,← Nat.max_assoc,← ih]
  simp [-Int.natCast_add,zdk,h1,zbt,zbg,zab (h _ hmem),zcP (show i ≤ 1000000 by omega),hmx]
theorem m_Deep : ∀ (n : Nat) (e : Ex.E),Ex.deep e ≤ n → Ex.count e ≤ 900000 → pr.ev 16 [encE e] [] = some (.ret (.int .i64 (Ex.deep e : Nat)),[])
 | 0,.mk k o v t nm s g d a,h,_ => by rw [zbL] at h;omega
 | n + 1,.mk k o v t nm s g d a,h,hc => by
  rw [zbL] at h
  rw [zcY] at hc
  have hal := zbR a
  have hdc := zeT a
  have ih : ∀ x ∈ a,pr.ev 16 [encE x] [] = some (.ret (.int .i64 (Ex.deep x : Nat)),[]) := fun x hx => m_Deep n x (by have := zb1 hx;omega) (by have := zbQ hx;omega)
  have hl := zlp a (by omega) (fun x hx => by have := zb1 hx;omega) ih a.length 0 0 (by omega) (by omega)
  have e10 : cell (encE (.mk k o v t nm s g d a)) 10 = .list (a.map encE) := by rw [enc_mk];rfl
  refine pr.of rfl (by simp only [List.map,(zbA _).rd];rfl) rfl (zon _ _ _ _) ?_
  rw [zbL]
  simpa [-Int.natCast_add,zii,e10] using hl
end Go.Proofs.YtakegkongmnekaaGreatDoor
namespace Go.Proofs.YtakegkongmnekaaGreatDoor
open Go.RowKit
open Vm
variable [Gl]
def ofV (e : Ex.E) (n : Nat) (no : Int) : Vm.V := .tup [encE e,.int .i64 (n : Int),.int .i64 no]
end Go.Proofs.YtakegkongmnekaaGreatDoor
namespace Go.Proofs.YtakegkongmnekaaGreatDoor
open Go.RowKit
open Vm
variable [Gl]
theorem zqe (c : Orc) (a b k d e f g h i j l m n : Vm.V) : zbx c .niface a b k d e f g h i j l m n = some [.blk 27 [a,b,k,d,e,f,g,h,i,j,l],.blk 3 [m],.blk 28 [n]] := by kernel_rfl
theorem clo_stop (c : Orc) (q : Nat) (a b k d e f g h i j l m n : Vm.V) : zbx c (stopV q) a b k d e f g h i j l m n = some [.blk 27 [.int .i64 0,.str [],.int .i64 0,.int .i64 0,.str [],.str [],.str [],.int .i64 0,.bool false,.bool false,.nils],.blk 3 [.int .i64 q],.blk 28 [.int .i64 20]] := by
 have h : eeqs [.blk 27 [.int .i64 0,.str [],.int .i64 0,.int .i64 0,.str [],.str [],.str [],.int .i64 0,.bool false,.bool false,.nils],.blk 3 [.int .i64 q],.blk 28 [.int .i64 20]] [.blk 27 [.int .i64 0,.str [],.int .i64 0,.int .i64 0,.str [],.str [],.str [],.int .i64 0,.bool false,.bool false,.nils],.blk 3 [.int .i64 q],.blk 28 [.int .i64 20]] = true := by simp [eeqs,eeq,veqs,veq]
 simp [zbx,stopV,gW,tasW,tasV,wf,wfs,ag,ckA_agg,agr_s,h]
section
variable {L : List Lx.TA}
theorem m_Parse (hL : L.length ≤ 999999) (hT : Good L) {p m : Nat} {r : Ex.R} (hp : p ≤ L.length) (hr : Ex.run (L.map (·.1)) m (.lev 0) p = some r) (hc : ∀ e q,r = .ok [e] q → Ex.count e ≤ 900000) :
  pr.ev 19 [.list (L.map tokM),.int .i64 (p : Int)] [] = some (.ret (parV p r),[]) := by
 refine pr.ofN rfl ?_
 show evFD Tryz.prog _ pr.ev [10,11,12] [(4,0),(5,1),(6,2)] 19 [.d (.list (L.map tokM)),.d (.int .i64 p)] = _
 rw [zm6]
 have h1 : ¬ ((p : Int) < 0) := by omega
 have h2 : ¬ (L.length < p) := by omega
 rcases prog_expr hL hT hp hr with ⟨e,q,rfl,h3,h4,h5⟩ | ⟨q,rfl,h4,h5⟩
 ·have hd := m_Deep (Ex.deep e) e (Nat.le_refl _) (hc e q rfl)
  have hw : wfs (((fun e => encE e) <$> ([] : List Ex.E))) = true := rfl
  have hwe := zlj e
  by_cases hde : Ex.deep e ≤ 24
  ·have h24 : ¬ ((24 : Int) < (Ex.deep e : Int)) := by omega
   cases e with
   | mk k o v t nm s g d a =>
    rw [enc_mk] at h5 hd hwe
    have hwl : wfs (a.map encE) = true := by simpa [wf,wfs] using hwe
    have hq : oeq (.ret (.tup [encE (.mk k o v t nm s g d a),.int .i64 q,.int .i64 0]),[]) (.ret (.tup [encE (.mk k o v t nm s g d a),.int .i64 q,.int .i64 0]),[]) = true := oeq_w (by simp [wf,wfs,zlj])
    rw [enc_mk] at hq
    simp [-Int.natCast_add,zd7,zcr,h1,h2,ckA_agg,k_r h5,zab hd,zqe,dfr_e,zq5,wfs,wf,parV,rtn,hde,h24,hwl,ag,agr_s,hq]
    rw [enc_mk]
  ·have h24 : ((24 : Int) < (Ex.deep e : Int)) := by omega
   cases e with
   | mk k o v t nm s g d a =>
    rw [enc_mk] at h5 hd hwe
    have hwl : wfs (a.map encE) = true := by simpa [wf,wfs] using hwe
    simp [-Int.natCast_add,zd7,zcr,h1,h2,ckA_agg,k_r h5,zab hd,zqe,dfr_e,zq5,wfs,wf,parV,rtn,hde,h24,hwl,e0_v]
 ·simp [-Int.natCast_add,zd7,zcr,h1,h2,ckA_agg,k_p h5,clo_stop,dfr_e,zq5,wfs,wf,parV,rtn,e0_v]
end
def ofEs (l : List Lx.TA) (s : List UInt8) : List Ent := [.blk 39 [.list (l.map tokM)],.blk 9 [.str s]]
theorem zoI {l : List Lx.TA} {s : List UInt8} (i : Nat) : pr.ev 18 [.int .i64 (i : Int),.ptr 0 0,.ptr 1 0] (ofEs l s) = some (.ret (.int .i64 (Ex.znm l s.length i : Nat)),ofEs l s) := by
 refine pr.of rfl rfl rfl (zom _ _ _ _ _ _) ?_
 have ld5 : ∀ t : Lx.TA,ldV false 1 (tokM t) 5 = some (.int .i64 (t.2 : Int)) := fun _ => rfl
 cases hq : l[i]? with
 | some t =>
  have hlt := (List.getElem?_eq_some_iff.1 hq).1
  have el : elV 6 (.list (l.map tokM)) (.int .i64 (i : Int)) = some (tokM t) := by rw [zfB,hq];rfl
  simp [-Int.natCast_add, -zfB,el,zfO,hlt,ld5,rtn,zk3 hq,ofEs]
 | none =>
  have hge : ¬ i < l.length := by simpa using hq
  simp [-Int.natCast_add,zfO,hge,rtn,zqK hq,ofEs]
section
variable {s : List UInt8} {l : List Lx.TA} {a : Nat}
theorem par_m (hs : s.length ≤ 1000000) (h : Lx.scan s = (l,a,0)) {m : Nat} {r : Ex.R} (hr : Ex.run (l.map (·.1)) m (.lev 0) 0 = some r) : pr.ev 19 [.list (l.map tokM),.int .i64 0] [] = some (.ret (parV 0 r),[]) :=
 m_Parse (p := 0) (by have := scan_L h;omega) (scan_G hs h) (Nat.zero_le _) hr (scan_one h hr).2
theorem m_Of {e : Ex.E} {n : Nat} {no : Int} (hs : s.length ≤ 1000000) (h : Ex.OfR s e n no) : pr.ev 7 [.str s] [] = some (.ret (ofV e n no),[]) := by
 refine pr.of rfl rfl rfl (zrS _ _ _ _) ?_
 have hsc := ev_scan hs
 have ld0 : ∀ t : Lx.TA,ldV false 1 (tokM t) 0 = some (.int .i64 t.1.kind) := fun _ => rfl
 cases h with
 | bad l a no hscan hne =>
  rw [zjm,hscan] at hsc
  simp [-Int.natCast_add,zdA,zab hsc,hne,ofV,rtn,e0_v]
 | stop l' a m q hscan hr =>
  rw [zjm,hscan] at hsc
  have hpar := par_m hs hscan hr
  simp only [parV] at hpar
  have hpl2 := zoI (l := l') (s := s) q
  rw [ofEs] at hpl2
  simp [-Int.natCast_add,zdA,zab hsc,zab hpar,clM_r hpl2,zq5,wfs,wf,zgx,ofV,rtn,e0_v]
 | deep l' a m q e hscan hr hd =>
  rw [zjm,hscan] at hsc
  have hpar := par_m hs hscan hr
  simp only [parV,if_neg (show ¬ Ex.deep e ≤ 24 by omega)] at hpar
  have hpl2 := zoI (l := l') (s := s) 0
  rw [ofEs] at hpl2
  simp only [Int.natCast_zero] at hpl2
  simp [-Int.natCast_add,zdA,zab hsc,zab hpar,clM_r hpl2,zq5,wfs,wf,zgx,ofV,rtn,e0_v]
 | rest l' a m q e t hscan hr hd hq hk =>
  rw [zjm,hscan] at hsc
  have hpar := par_m hs hscan hr
  simp only [parV,if_pos hd] at hpar
  have hlt := (List.getElem?_eq_some_iff.1 hq).1
  have el : elV 6 (.list (l'.map tokM)) (.int .i64 (q : Int)) = some (tokM t) := by rw [zfB,hq];rfl
  have hpl2 := zoI (l := l') (s := s) q
  rw [ofEs,zk3 hq] at hpl2
  simp [-Int.natCast_add, -zfB,el,zdA,zdj,zab hsc,zab hpar,clM_r hpl2,zq5,wfs,wf,zgx,hlt,hk,ofV,rtn,e0_v,ld0]
 | ok l' a m q e hscan hr hd hk =>
  rw [zjm,hscan] at hsc
  have hpar := par_m hs hscan hr
  simp only [parV,if_pos hd] at hpar
  cases hq : l'[q]? with
  | some t =>
   have hlt := (List.getElem?_eq_some_iff.1 hq).1
   have el : elV 6 (.list (l'.map tokM)) (.int .i64 (q : Int)) = some (tokM t) := by rw [zfB,hq];rfl
   simp [-Int.natCast_add, -zfB,el,zdA,zdj,zab hsc,zab hpar,hlt,hk t hq,ofV,rtn,e0_v,ld0]
  | none =>
   have hge : ¬ q < l'.length := by simpa using hq
   simp [-Int.natCast_add,zdA,zdj,zab hsc,zab hpar,hge,ofV,rtn,e0_v]
end
end Go.Proofs.YtakegkongmnekaaGreatDoor
namespace Go.Proofs.YtakegkongmnekaaGreatDoor
open Go.RowKit
open Vm
theorem inner_eq (k k' kv : Int) (T : Ex.S) : (if k = 3 then Ex.innU (k',kv,T) else Ex.inn (k',kv,T)) = if (3 ≤ k' ∧ k' ≤ 8) ∨ (k' = 1 ∧ k = 3 ∧ kv = 1) then 40 :: (T ++ [41]) else T := by
 by_cases h3 : k = 3
 ·rw [if_pos h3,Ex.innU]
  congr 1
  simp [Ex.zb0,h3]
 ·rw [if_neg h3,Ex.inn]
  congr 1
  simp [Ex.zb0,h3]
def zrL (k : Int) (d : Bool) (n : Nat) : Prop :=
 k = 1 ∨ k = 2 ∨ (k = 3 ∧ n = 1) ∨ (k = 4 ∧ n = 2) ∨ (k = 5 ∧ n = 2) ∨ (k = 6 ∧ 2 ≤ n) ∨ (k = 7 ∧ n = 3) ∨ (k = 8 ∧ n = 2) ∨ (k = 9 ∧ 2 ≤ n) ∨ (k = 10 ∧ d = false) ∨ (k = 11 ∧ n = 1) ∨ (k = 11 ∧ n = 0) ∨ (k = 12 ∧ n = 1)
theorem znp {k : Int} {o : Ex.S} {v : Ex.V} {t m : Ex.S} {g d : Bool} {n : Nat} (h : Ex.ownF k o v t m g d n = true) : zrL k d n := by
 unfold Ex.ownF at h
 unfold zrL
 by_cases hk : k = 1
 ·rw [if_pos hk] at h
  simp only [Bool.and_eq_true,Bool.or_eq_true,Bool.not_eq_true',decide_eq_true_eq] at h
  simp only [hk]
  first | (simp;done) | (simp_all;done) | (simp_all;omega)
 rw [if_neg hk] at h
 by_cases hk : k = 2
 ·rw [if_pos hk] at h
  simp only [Bool.and_eq_true,Bool.or_eq_true,Bool.not_eq_true',decide_eq_true_eq] at h
  simp only [hk]
  first | (simp;done) | (simp_all;done) | (simp_all;omega)
 rw [if_neg hk] at h
 by_cases hk : k = 3
 ·rw [if_pos hk] at h
  simp only [Bool.and_eq_true,Bool.or_eq_true,Bool.not_eq_true',decide_eq_true_eq] at h
  simp only [hk]
  first | (simp;done) | (simp_all;done) | (simp_all;omega)
 rw [if_neg hk] at h
 by_cases hk : k = 4
 ·rw [if_pos hk] at h
  simp only [Bool.and_eq_true,Bool.or_eq_true,Bool.not_eq_true',decide_eq_true_eq] at h
  simp only [hk]
  first | (simp;done) | (simp_all;done) | (simp_all;omega)
 rw [if_neg hk] at h
 by_cases hk : k = 5
 ·rw [if_pos hk] at h
  simp only [Bool.and_eq_true,Bool.or_eq_true,Bool.not_eq_true',decide_eq_true_eq] at h
  simp only [hk]
  first | (simp;done) | (simp_all;done) | (simp_all;omega)
 rw [if_neg hk] at h
 by_cases hk : k = 6
 ·rw [if_pos hk] at h
  simp only [Bool.and_eq_true,Bool.or_eq_true,Bool.not_eq_true',decide_eq_true_eq] at h
  simp only [hk]
  first | (simp;done) | (simp_all;done) | (simp_all;omega)
 rw [if_neg hk] at h
 by_cases hk : k = 7
 ·rw [if_pos hk] at h
  simp only [Bool.and_eq_true,Bool.or_eq_true,Bool.not_eq_true',decide_eq_true_eq] at h
  simp only [hk]
  first | (simp;done) | (simp_all;done) | (simp_all;omega)
 rw [if_neg hk] at h
 by_cases hk : k = 8
 ·rw [if_pos hk] at h
  simp only [Bool.and_eq_true,Bool.or_eq_true,Bool.not_eq_true',decide_eq_true_eq] at h
  simp only [hk]
  first | (simp;done) | (simp_all;done) | (simp_all;omega)
 rw [if_neg hk] at h
 by_cases hk : k = 9
 ·rw [if_pos hk] at h
  simp only [Bool.and_eq_true,Bool.or_eq_true,Bool.not_eq_true',decide_eq_true_eq] at h
  simp only [hk]
  first | (simp;done) | (simp_all;done) | (simp_all;omega)
 rw [if_neg hk] at h
 by_cases hk : k = 10
 ·rw [if_pos hk] at h
  simp only [Bool.and_eq_true,Bool.or_eq_true,Bool.not_eq_true',decide_eq_true_eq] at h
  simp only [hk]
  first | (simp;done) | (simp_all;done) | (simp_all;omega)
 rw [if_neg hk] at h
 by_cases hk : k = 11
 ·rw [if_pos hk] at h
  simp only [Bool.and_eq_true,Bool.or_eq_true,Bool.not_eq_true',decide_eq_true_eq] at h
  simp only [hk]
  first | (simp;done) | (simp_all;done) | (simp_all;omega)
 rw [if_neg hk] at h
 by_cases hk : k = 12
 ·rw [if_pos hk] at h
  simp only [Bool.and_eq_true,Bool.or_eq_true,Bool.not_eq_true',decide_eq_true_eq] at h
  simp only [hk]
  first | (simp;done) | (simp_all;done) | (simp_all;omega)
 rw [if_neg hk] at h
 cases h
inductive Qt : Ex.E → Prop
 | mk {e : Ex.E} : Ex.N64 e → e.val.2.2.length ≤ 1000000 → (∀ x ∈ e.args,Qt x) → Qt e
theorem Qt.n {e : Ex.E} (h : Qt e) : Ex.N64 e := by cases h;assumption
theorem Qt.v {e : Ex.E} (h : Qt e) : e.val.2.2.length ≤ 1000000 := by cases h;assumption
theorem Qt.a {e : Ex.E} (h : Qt e) : ∀ x ∈ e.args,Qt x := by cases h;assumption
theorem zdc (c : Ex.C) : c.2.2.length ≤ (Ex.inn c).length := by
 unfold Ex.inn;split <;> simp <;> omega
theorem zsY (c : Ex.C) : c.2.2.length ≤ (Ex.innU c).length := by
 unfold Ex.innU;split <;> simp <;> omega
abbrev kO (e : Ex.E) : Ex.C := (e.kind,e.val.1,Ex.print e)
theorem zeh : ∀ {l : List Ex.E} {x : Ex.E},x ∈ l → (Ex.print x).length ≤ (Ex.commas (Ex.prints l)).length
 | [y],x,h => by
  obtain rfl := List.mem_singleton.1 h
  exact Nat.le_refl _
 | y :: z :: r,x,h => by
  rw [Ex.prints,Ex.prints,Ex.commas]
  ·rcases List.mem_cons.1 h with rfl | h
   ·simp only [List.length_append];omega
   ·have := zeh h
    rw [Ex.prints] at this
    simp only [List.length_append];omega
  ·intro h;cases h
theorem zi3 : ∀ {l : List Ex.E} {x : Ex.E},x ∈ l → (Ex.print x).length ≤ (Ex.zcL (Ex.prints l)).length
 | [y],x,h => by
  obtain rfl := List.mem_singleton.1 h
  rw [Ex.prints,Ex.prints,Ex.zcL]
  simp only [List.length_append];omega
 | y :: z :: r,x,h => by
  rw [Ex.prints,Ex.prints,Ex.zcL]
  simp only [List.length_append]
  rcases List.mem_cons.1 h with rfl | h
  ·omega
  ·rcases List.mem_cons.1 h with rfl | h
   ·omega
   ·have := zi3 h
    omega
theorem zmz {d : Bool} {l : List Ex.E} {x : Ex.E} (h : x ∈ l) : (Ex.print x).length ≤ (Ex.zf2 d (Ex.prints l)).length := by
 unfold Ex.zf2
 cases d
 ·have := zi3 h
  simp only [Bool.false_eq_true,if_false,List.length_append];omega
 ·simp only [if_true,List.length_append]
  cases l with
  | nil => cases h
  | cons y r =>
   rw [Ex.prints]
   simp only [Ex.kid,List.drop_succ_cons,List.drop_zero,List.getElem?_cons_zero,Option.getD_some]
   rcases List.mem_cons.1 h with rfl | h
   ·omega
   ·have := zi3 h
    omega
theorem zge : ∀ s : Ex.S,(Ex.zaU s).length ≤ 2 * s.length
 | [] => Nat.le_refl _
 | c :: r => by
  have := zge r
  rw [Ex.zaU]
  split <;> simp <;> omega
theorem add_s (x y : List UInt8) (h : x.length ≤ 2000000000) (h' : y.length ≤ 2000000000) : strV .add x y = some (.str (x ++ y)) := st_add x y (by omega)
def accL {α : Type} (f : α → Vm.V) (l : List α) (i : Nat) : Vm.V := if i = 0 then .nils else .list ((l.take i).map f)
theorem accL_0 {α : Type} (f : α → Vm.V) (l : List α) : accL f l 0 = .nils := rfl
theorem app_acc {α : Type} (z b : Nat) (f : α → Vm.V) (l : List α) (i : Nat) (h : i < l.length) (hz : ∀ x,(f x).size = z) (hb : l.length * (b + 1) ≤ 140737488355328) : appV z b (accL f l i) (.list [f l[i]]) = some (accL f l (i + 1)) := by
 have h2 : l.take (i + 1) = l.take i ++ [l[i]] := by rw [List.take_add_one,List.getElem?_eq_getElem h];rfl
 have hm : (i + 1) * (b + 1) ≤ l.length * (b + 1) := Nat.mul_le_mul_right _ h
 have hz2 : ∀ y ∈ [f l[i]],y.size = z := fun y hy => by rw [List.mem_singleton.1 hy];exact hz _
 unfold accL
 rw [if_neg (Nat.succ_ne_zero i),h2,List.map_append]
 by_cases h0 : i = 0
 ·subst h0
  rw [if_pos rfl,app_n z b _ hz2 (by simpa using Nat.le_trans hm hb)]
  simp
 ·rw [if_neg h0,ztZ z b _ _ hz2 (by simp;rw [Nat.min_eq_left (Nat.le_of_lt h)];omega)]
  rfl
theorem accL_nm {α : Type} (f : α → Vm.V) (l : List α) : norm1 (accL f l l.length) = .list (l.map f) := by
 unfold accL
 split
 ·rename_i h
  rw [List.eq_nil_of_length_eq_zero h]
  rfl
 ·rw [List.take_length];rfl
theorem zgV {α : Type} (z : Nat) (f : α → Vm.V) (l : List α) (i : Nat) (hz : ∀ x,(f x).size = z) (h : i ≤ l.length) : slL z (.list (l.map f)) (some (.int .i64 (i : Int))) none = some (.list ((l.drop i).map f)) := by
 have h1 : ∀ x ∈ l.map f,x.size = z := fun x hx => by
  obtain ⟨y,_,rfl⟩ := List.mem_map.1 hx
  exact hz y
 have h2 : (l.map f).take l.length = l.map f := List.take_of_length_le (by simp)
 simp [slL,zfi,bnd,norm0,h,hz,List.map_drop,h2]
end Go.Proofs.YtakegkongmnekaaGreatDoor
namespace Go.Proofs.YtakegkongmnekaaGreatDoor
open Go.RowKit
open Vm
variable [Gl]
theorem ev_num {n : Int} (h1 : -9223372036854775808 ≤ n) (h2 : n ≤ 9223372036854775807) : pr.ev 50 [.int .i64 n] [] = some (.ret (.str (Ox.num n)),[]) := pr.ofN rfl (by show zd8 (zio [.int .i64 n]) = _;simp [zd8,zio,h1,h2])
theorem ev_rnum {n : Int} (h1 : -9223372036854775808 ≤ n) (h2 : n ≤ 9223372036854775807) : pr.ev 54 [.int .i64 n] [] = some (.ret (.str (Ox.num n)),[]) := pr.ofN rfl (by show zd8 (zio [.int .i64 n]) = _;simp [zd8,zio,h1,h2])
theorem ev_hex {s : List UInt8} (hs : s.length ≤ 1000000) : pr.ev 52 [.str s] [] = some (.ret (.str (Ox.hex s)),[]) := pr.ofN rfl (by show zd8 (ans1 _ [.str s]) = _;simp [zd8,ans1,hs])
theorem ev_rhex {s : List UInt8} (hs : s.length ≤ 1000000) : pr.ev 55 [.str s] [] = some (.ret (.str (Ox.hex s)),[]) := pr.ofN rfl (by show zd8 (ans1 _ [.str s]) = _;simp [zd8,ans1,hs])
theorem zoQ {l : List (List UInt8)} {s : List UInt8} (h1 : l.length ≤ 1000000) (h2 : (Lib.join l s).length ≤ 1000000000) : pr.ev 53 [.list (l.map Vm.V.str),.str s] [] = some (.ret (.str (Lib.join l s)),[]) := pr.ofN rfl (by show zd8 (zkg [.list (l.map Vm.V.str),.str s]) = _;simp [zd8,zkg,zkD,h1,h2])
theorem ev_repl {s : List UInt8} (hs : s.length ≤ 1000000) : pr.ev 51 [.str s,.str [39],.str [39,39]] [] = some (.ret (.str (Ex.zaU s)),[]) := pr.ofN rfl (by show zd8 (zkf [.str s,.str [39],.str [39,39]]) = _;simp [zd8,zkf,hs])
theorem m_Quote {v : Ex.V} (h1 : -9223372036854775808 ≤ v.2.1) (h2 : v.2.1 ≤ 9223372036854775807) (h3 : v.2.2.length ≤ 1000000) : pr.ev 26 [.agg [.int .i64 v.1,.int .i64 v.2.1,.str v.2.2]] [] = some (.ret (.str (Ex.valP v)),[]) := by
 refine pr.of rfl rfl rfl (zm3 _ _ _ _) ?_
 have hq := zge v.2.2
 have hx := zoM v.2.2
 unfold Ex.valP
 by_cases k0 : v.1 = 0
 ·simp [zcI,ckA_agg,k0,rtn,Ex.zkk]
 by_cases k1 : v.1 = 1
 ·simp [zcI,ckA_agg,k1,rtn,zab (ev_num h1 h2)]
 by_cases k2 : v.1 = 2
 ·simp [zcI,ckA_agg,k2,rtn,zab (ev_repl h3),add_s,show (Ex.zaU v.2.2).length ≤ 2000000000 by omega,show (Ex.zaU v.2.2).length + 1 ≤ 2000000000 by omega]
 by_cases k3 : v.1 = 3
 ·simp [zcI,ckA_agg,k3,rtn,zab (ev_hex h3),add_s,show (Ox.hex v.2.2).length ≤ 2000000000 by omega,show (Ox.hex v.2.2).length + 1 + 1 ≤ 2000000000 by omega]
 ·simp [zcI,ckA_agg,k0,k1,k2,k3,rtn]
theorem zjS {e x : Ex.E} {i : Nat} (hx : e.args[i]? = some x) (hl : e.args.length ≤ 1000000) : pr.ev 32 [encE e,.int .i64 (i : Int)] [] = some (.ret (encE x),[]) := by
 refine pr.of rfl (by simp only [List.map,(zbA _).rd];rfl) rfl (zol _ _ _ _ _) ?_
 have hlt := (List.getElem?_eq_some_iff.1 hx).1
 have hxi : e.args[i] = x := (List.getElem?_eq_some_iff.1 hx).2
 have h10 : cell (encE e) 10 = .list (e.args.map encE) := by cases e;rw [enc_mk];rfl
 simp [-Int.natCast_add,zih,h10,hlt,zbt,hxi,zbg,rtn]
theorem m_not {e : Ex.E} {w : Ex.S} (hw : w.length ≤ 1000) : pr.ev 28 [encE e,.str w] [] = some (.ret (.str (Ex.notW e.neg w)),[]) := by
 refine pr.of rfl (by simp only [List.map,(zbA _).rd];rfl) rfl (zqA _ _ _ _ _) ?_
 have h8 : cell (encE e) 8 = .bool e.neg := by cases e;rw [enc_mk];rfl
 cases h : e.neg <;> simp [zji,h8,h,Ex.notW,add_s,rtn,show w.length ≤ 2000000000 by omega,show w.length + 1 ≤ 2000000000 by omega,show w.length + 1 + 1 + 1 + 1 + 1 ≤ 2000000000 by omega]
theorem zsI {e x : Ex.E} {i : Nat} (hx : e.args[i]? = some x) (hl : e.args.length ≤ 1000000) (hT : (Ex.print x).length ≤ 1000000000) (hp : pr.ev 12 [encE x] [] = some (.ret (.str (Ex.print x)),[])) :
  pr.ev 27 [encE e,.int .i64 (i : Int)] [] = some (.ret (.str (if e.kind = 3 then Ex.innU (kO x) else Ex.inn (kO x))),[]) := by
 refine pr.of rfl (by simp only [List.map,(zbA _).rd];rfl) rfl (zm4 _ _ _ _ _) ?_
 have h0 : cell (encE e) 0 = .int .i64 e.kind := by cases e;rw [enc_mk];rfl
 have x0 : cell (encE x) 0 = .int .i64 x.kind := by cases x;rw [enc_mk];rfl
 have x2 : cell (encE x) 2 = .int .i64 x.val.1 := by cases x;rw [enc_mk];rfl
 rw [inner_eq]
 have b1 : (Ex.print x).length ≤ 2000000000 := by omega
 have b2 : (Ex.print x).length + 1 ≤ 2000000000 := by omega
 have hsh := fun a b c d => show zaE pr.ev lup a b (.bool true) c d = _ from rfl
 by_cases hk : 3 ≤ x.kind ∧ x.kind ≤ 8
 ·have : x.kind = 3 ∨ x.kind = 4 ∨ x.kind = 5 ∨ x.kind = 6 ∨ x.kind = 7 ∨ x.kind = 8 := by omega
  rw [if_pos (.inl hk)]
  rcases this with h | h | h | h | h | h <;> simp [sh_expr_inner,zaE,zab (zjS hx hl),zab hp,x0,h,add_s,b1,b2,rtn]
 ·have n3 : ¬ x.kind = 3 := by omega
  have n4 : ¬ x.kind = 4 := by omega
  have n5 : ¬ x.kind = 5 := by omega
  have n6 : ¬ x.kind = 6 := by omega
  have n7 : ¬ x.kind = 7 := by omega
  have n8 : ¬ x.kind = 8 := by omega
  by_cases k1 : x.kind = 1
  ·by_cases k3 : e.kind = 3
   ·by_cases kv : x.val.1 = 1
    ·simp [sh_expr_inner,zaE,zcq,zab (zjS hx hl),zab hp,x0,x2,h0,k1,k3,kv,add_s,b1,b2,rtn]
    ·simp [sh_expr_inner,zaE,zcq,zab (zjS hx hl),zab hp,x0,x2,h0,k1,k3,kv,rtn]
   ·simp [sh_expr_inner,zaE,zcq,zab (zjS hx hl),zab hp,x0,x2,h0,k1,k3,rtn]
  ·rw [if_neg (by omega)]
   simp [sh_expr_inner,zaE,zab (zjS hx hl),zab hp,x0,n3,n4,n5,n6,n7,n8,k1,rtn]
end Go.Proofs.YtakegkongmnekaaGreatDoor
namespace Go.Proofs.YtakegkongmnekaaGreatDoor
open Go.RowKit
open Vm
variable [Gl]
def PrA (l : List Ex.E) : Prop := ∀ x ∈ l,pr.ev 12 [encE x] [] = some (.ret (.str (Ex.print x)),[])
theorem zjU (l : List Ex.E) (hl : l.length ≤ 900000) (hp : PrA l) (hlen : (Lib.join (l.map Ex.print) [44,32]).length ≤ 100000000) : ∀ (n i : Nat),i + n = l.length →
  lup Out (zcK pr.ev lup) [.list (l.map encE),.int .i64 l.length,.int .i64 (i : Int),accL (fun e => Vm.V.str (Ex.print e)) l i] = some (.ret (.str (40 :: (Lib.join (l.map Ex.print) [44,32] ++ [41]))),[])
 | 0,i,hi => by
  obtain rfl : i = l.length := by omega
  have hj := zoQ (l := l.map Ex.print) (s := [44,32]) (by simp;omega) (by omega)
  rw [List.map_map] at hj
  have b1 : (Lib.join (l.map Ex.print) [44,32]).length ≤ 2000000000 := by omega
  have b2 : (Lib.join (l.map Ex.print) [44,32]).length + 1 ≤ 2000000000 := by omega
  have hn := accL_nm (fun e => Vm.V.str (Ex.print e)) l
  rw [zaX]
  have hj2 : pr.ev 53 [.list (l.map fun e => Vm.V.str (Ex.print e)),.str [44,32]] [] = some (.ret (.str (Lib.join (l.map Ex.print) [44,32])),[]) := hj
  simp [-Int.natCast_add,zcK,zfg,hn,zab hj2,add_s,b1,b2,rtn]
 | n + 1,i,hi => by
  have h1 : i < l.length := by omega
  have hx := hp _ (List.getElem_mem h1)
  have ih := zjU l hl hp hlen n (i + 1) (by omega)
  have ha := app_acc 1 16 (fun e => Vm.V.str (Ex.print e)) l i h1 (fun _ => rfl) (by omega)
  rw [zaX]
  simp [-Int.natCast_add,zcK,h1,zbt,zbg,zab hx,ha,zcP (show i ≤ 1000000 by omega),ih]
theorem ztB (l : List Ex.E) : Ex.commas (Ex.prints l) = Lib.join (l.map Ex.print) [44,32] := by
 rw [Ex.zkc,Ex.zcw,List.map_map]
 rfl
theorem zpT (l : List Ex.E) (hl : l.length ≤ 900000) (hp : PrA l) (hlen : (Ex.commas (Ex.prints l)).length ≤ 100000000) : pr.ev 29 [.list (l.map encE)] [] = some (.ret (.str (40 :: (Ex.commas (Ex.prints l) ++ [41]))),[]) := by
 refine pr.of rfl rfl rfl (zlQ _ _ _ _) ?_
 rw [ztB] at hlen ⊢
 have h := zjU l hl hp hlen l.length 0 (by omega)
 simpa [-Int.natCast_add,zgn,accL_0] using h
theorem zb6 (k : Int) (o : Ex.S) (v : Ex.V) (t n : Ex.S) (s : Int) (g d : Bool) (a : List Ex.E) : cell (encE (.mk k o v t n s g d a)) 10 = .list (a.map encE) := by rw [enc_mk];rfl
theorem mk_0 (k : Int) (o : Ex.S) (v : Ex.V) (t n : Ex.S) (s : Int) (g d : Bool) (a : List Ex.E) : cell (encE (.mk k o v t n s g d a)) 0 = .int .i64 k := by rw [enc_mk];rfl
theorem mk_1 (k : Int) (o : Ex.S) (v : Ex.V) (t n : Ex.S) (s : Int) (g d : Bool) (a : List Ex.E) : cell (encE (.mk k o v t n s g d a)) 1 = .str o := by rw [enc_mk];rfl
theorem mk_2 (k : Int) (o : Ex.S) (v : Ex.V) (t n : Ex.S) (s : Int) (g d : Bool) (a : List Ex.E) : cell (encE (.mk k o v t n s g d a)) 2 = .int .i64 v.1 := by rw [enc_mk];rfl
theorem mk_3 (k : Int) (o : Ex.S) (v : Ex.V) (t n : Ex.S) (s : Int) (g d : Bool) (a : List Ex.E) : cell (encE (.mk k o v t n s g d a)) 3 = .int .i64 v.2.1 := by rw [enc_mk];rfl
theorem mk_4 (k : Int) (o : Ex.S) (v : Ex.V) (t n : Ex.S) (s : Int) (g d : Bool) (a : List Ex.E) : cell (encE (.mk k o v t n s g d a)) 4 = .str v.2.2 := by rw [enc_mk];rfl
theorem mk_5 (k : Int) (o : Ex.S) (v : Ex.V) (t n : Ex.S) (s : Int) (g d : Bool) (a : List Ex.E) : cell (encE (.mk k o v t n s g d a)) 5 = .str t := by rw [enc_mk];rfl
theorem mk_6 (k : Int) (o : Ex.S) (v : Ex.V) (t n : Ex.S) (s : Int) (g d : Bool) (a : List Ex.E) : cell (encE (.mk k o v t n s g d a)) 6 = .str n := by rw [enc_mk];rfl
theorem mk_8 (k : Int) (o : Ex.S) (v : Ex.V) (t n : Ex.S) (s : Int) (g d : Bool) (a : List Ex.E) : cell (encE (.mk k o v t n s g d a)) 8 = .bool g := by rw [enc_mk];rfl
theorem mk_9 (k : Int) (o : Ex.S) (v : Ex.V) (t n : Ex.S) (s : Int) (g d : Bool) (a : List Ex.E) : cell (encE (.mk k o v t n s g d a)) 9 = .bool d := by rw [enc_mk];rfl
section
variable (o : Ex.S) (v : Ex.V) (t nm : Ex.S) (s : Int) (g d : Bool)
theorem zsJ (a : List Ex.E) (T : Ex.S) (hT : T.length + o.length ≤ 100000000) (h : pr.ev 29 [.list (a.map encE)] [] = some (.ret (.str T),[])) : pr.ev 31 [encE (.mk 10 o v t nm s g d a)] [] = some (.ret (.str (o ++ T)),[]) := by
 refine pr.of rfl (by simp only [List.map,(zbA _).rd];rfl) rfl (zdT _ _ _ _) ?_
 simp [zcJ,mk_0,mk_1,zb6,zab h,add_s,show T.length ≤ 2000000000 by omega,show o.length ≤ 2000000000 by omega,rtn]
theorem zqP (x : Ex.E) (hT : (Ex.print x).length + o.length ≤ 100000000) (h : pr.ev 12 [encE x] [] = some (.ret (.str (Ex.print x)),[])) :
  pr.ev 31 [encE (.mk 11 o v t nm s g d [x])] [] = some (.ret (.str (if d then o ++ [40] ++ Ex.wDistinct ++ [32] ++ Ex.print x ++ [41] else o ++ [40] ++ Ex.print x ++ [41])),[]) := by
 refine pr.of rfl (by simp only [List.map,(zbA _).rd];rfl) rfl (zdT _ _ _ _) ?_
 have hpt := zjS (e := .mk 11 o v t nm s g d [x]) (x := x) (i := 0) rfl (by simp [Ex.E.args])
 simp only [Int.natCast_zero] at hpt
 cases d <;> simp (disch := first | omega | (simp only [List.length_append,List.length_cons,List.length_nil];omega) | fail) [zcJ,mk_0,mk_1,mk_9,zb6,zab hpt,zab h,add_s,rtn,Ex.wDistinct]
theorem zoJ (hT : o.length ≤ 100000000) : pr.ev 31 [encE (.mk 11 o v t nm s g d [])] [] = some (.ret (.str (o ++ [40,42,41])),[]) := by
 refine pr.of rfl (by simp only [List.map,(zbA _).rd];rfl) rfl (zdT _ _ _ _) ?_
 simp [zcJ,mk_0,mk_1,zb6,add_s,show o.length ≤ 2000000000 by omega,rtn]
end
theorem zhv (W U : List (List UInt8)) (h : W.length + U.length ≤ 1000000) : appV 1 16 (.list (W.map .str)) (.list (U.map .str)) = some (.list ((W ++ U).map .str)) := by
 rw [ztZ 1 16 _ _ (fun y hy => by obtain ⟨x,_,rfl⟩ := List.mem_map.1 hy;rfl) (by simp;omega),List.map_append]
theorem zkd : ∀ (n : Nat) (l : List Ex.E) (W : List (List UInt8)),l.length ≤ n → PrA l → W.length + 2 * l.length + 1 ≤ 1000000 → (Lib.join (W ++ Ex.zdY (Ex.prints l) ++ [Ex.wEnd]) [32]).length ≤ 1000000000 →
  lup Out (zbC pr.ev lup) [.list (l.map encE),.list (W.map .str)] = some (.ret (.str (Lib.join (W ++ Ex.zdY (Ex.prints l) ++ [Ex.wEnd]) [32])),[])
 | _,[],W,_,hp,hW,hT => by
  have ha := zhv W [Ex.wEnd] (by simp at hW ⊢;omega)
  simp only [Ex.prints,Ex.zdY,List.append_nil] at hT ⊢
  have hj := zoQ (l := W ++ [Ex.wEnd]) (s := [32]) (by simp at hW ⊢;omega) hT
  rw [zaX]
  simp only [Ex.wEnd,List.map_cons,List.map_nil] at ha hj ⊢
  simp [-Int.natCast_add, -List.map_append,zbC,zcM,zcc,ha,zab hj,rtn]
 | _,[x],W,_,hp,hW,hT => by
  have hx := hp x (by simp)
  have ha1 := zhv W [Ex.zgw,Ex.print x] (by simp at hW ⊢;omega)
  have ha := zhv (W ++ [Ex.zgw,Ex.print x]) [Ex.wEnd] (by simp at hW ⊢;omega)
  have hp1 : Ex.prints [x] = [(x.kind,x.val.1,Ex.print x)] := by rw [Ex.prints,Ex.prints]
  rw [hp1,Ex.zdY] at hT ⊢
  dsimp only at hT ⊢
  have hj := zoQ (l := W ++ [Ex.zgw,Ex.print x] ++ [Ex.wEnd]) (s := [32]) (by simp at hW ⊢;omega) hT
  have el := zbt [x] 0 .i64
  simp only [Int.natCast_zero,List.map_cons,List.map_nil,List.getElem?_cons_zero,Option.map_some] at el
  rw [zaX]
  simp only [Ex.wEnd,Ex.zgw,List.map_cons,List.map_nil] at ha ha1 hj ⊢
  simp [-Int.natCast_add, -List.map_append, -List.append_assoc,zbC,zcM,zcc,el,zbg,zab hx,ha1,ha,zab hj,rtn]
 | n + 1,x :: y :: r,W,hn,hp,hW,hT => by
  have hx := hp x (by simp)
  have hy := hp y (by simp)
  have ha := zhv W [Ex.zcO,Ex.print x,Ex.wThen,Ex.print y] (by simp at hW ⊢;omega)
  have hp1 : Ex.prints (x :: y :: r) = (x.kind,x.val.1,Ex.print x) :: (y.kind,y.val.1,Ex.print y) :: Ex.prints r := by rw [Ex.prints,Ex.prints]
  rw [hp1,Ex.zdY] at hT ⊢
  dsimp only at hT ⊢
  have e1 : W ++ Ex.zcO :: Ex.print x :: Ex.wThen :: Ex.print y :: Ex.zdY (Ex.prints r) ++ [Ex.wEnd] = W ++ [Ex.zcO,Ex.print x,Ex.wThen,Ex.print y] ++ Ex.zdY (Ex.prints r) ++ [Ex.wEnd] := by simp
  rw [e1] at hT ⊢
  have ih := zkd n r (W ++ [Ex.zcO,Ex.print x,Ex.wThen,Ex.print y]) (by simp at hn;omega) (fun z hz => hp z (by simp [hz])) (by simp at hW ⊢;omega) hT
  have el0 := zbt (x :: y :: r) 0 .i64
  have el1 := zbt (x :: y :: r) 1 .i64
  have sl := zgV 11 encE (x :: y :: r) 2 (fun e => zdr e) (by simp)
  have hlen : (1 : Int) < ((r.length + 1 + 1 : Nat) : Int) := by omega
  simp only [Int.natCast_zero,Int.natCast_one,show ((2 : Nat) : Int) = 2 from rfl,List.map_cons,List.getElem?_cons_zero,List.getElem?_cons_succ,Option.map_some,List.drop_succ_cons,List.drop_zero] at el0 el1 sl
  rw [zaX,← ih]
  simp only [Ex.zcO,Ex.wThen,List.map_cons,List.map_nil] at ha ⊢
  simp [-Int.natCast_add, -List.map_append, -List.append_assoc,zbC,el0,el1,zbg,zab hx,zab hy,ha,sl,hlen]
theorem m_case (o : Ex.S) (v : Ex.V) (t nm : Ex.S) (s : Int) (g d : Bool) (a : List Ex.E) (hl : a.length ≤ 400000) (hd : d = true → a ≠ []) (hlen : (Ex.zf2 d (Ex.prints a)).length ≤ 100000000) (hp : PrA a) :
  pr.ev 30 [encE (.mk 9 o v t nm s g d a)] [] = some (.ret (.str (Ex.zf2 d (Ex.prints a))),[]) := by
 refine pr.of rfl (by simp only [List.map,(zbA _).rd];rfl) rfl (ziz _ _ _ _) ?_
 rw [Ex.ztG] at hlen ⊢
 cases d
 ·simp only [Bool.false_eq_true,if_false] at hlen ⊢
  have h := zkd a.length a [Ex.wCase] (Nat.le_refl _) hp (by simp;omega) (by simpa using Nat.le_trans hlen (by omega))
  simp only [Ex.wCase,List.map_cons,List.map_nil] at h ⊢
  simpa [zdy,zcb,zcd,mk_9,zb6] using h
 ·cases a with
  | nil => exact absurd rfl (hd rfl)
  | cons x r =>
   have hx := hp x (by simp)
   have hk : (Ex.kid (Ex.prints (x :: r)) 0).2.2 = Ex.print x := by rw [Ex.prints];rfl
   have hdr : (Ex.prints (x :: r)).drop 1 = Ex.prints r := by rw [Ex.prints];rfl
   simp only [if_true,hk,hdr] at hlen ⊢
   have h := zkd r.length r [Ex.wCase,Ex.print x] (Nat.le_refl _) (fun z hz => hp z (by simp [hz])) (by simp at hl ⊢;omega) (by simpa using Nat.le_trans hlen (by omega))
   have el0 := zbt (x :: r) 0 .i64
   have sl := zgV 11 encE (x :: r) 1 (fun e => zdr e) (by simp)
   have ha := zhv [Ex.wCase] [Ex.print x] (by simp)
   simp only [Int.natCast_zero,Int.natCast_one,List.map_cons,List.getElem?_cons_zero,Option.map_some,List.drop_succ_cons,List.drop_zero] at el0 sl
   have hlen : (0 : Int) < (r.length : Int) + 1 := by omega
   simp only [Ex.wCase,List.map_cons,List.map_nil] at h ha ⊢
   simpa [-Int.natCast_add,zdy,zcb,zcd,mk_9,zb6,el0,zbg,zab hx,ha,sl,hlen] using h
end Go.Proofs.YtakegkongmnekaaGreatDoor
namespace Go.Proofs.YtakegkongmnekaaGreatDoor
open Go.RowKit
open Vm
variable [Gl]
section
variable {k : Int} {o : Ex.S} {v : Ex.V} {t nm : Ex.S} {s : Int} {g d : Bool} {a : List Ex.E} {x : Ex.E} {i : Nat}
theorem innU_at (hx : a[i]? = some x) (hl : a.length ≤ 1000000) (hT : (Ex.print x).length ≤ 1000000000) (hp : pr.ev 12 [encE x] [] = some (.ret (.str (Ex.print x)),[])) :
  pr.ev 27 [encE (.mk 3 o v t nm s g d a),.int .i64 (i : Int)] [] = some (.ret (.str (Ex.innU (kO x))),[]) := zsI (e := .mk 3 o v t nm s g d a) hx hl hT hp
theorem ze7 (hk : k ≠ 3) (hx : a[i]? = some x) (hl : a.length ≤ 1000000) (hT : (Ex.print x).length ≤ 1000000000) (hp : pr.ev 12 [encE x] [] = some (.ret (.str (Ex.print x)),[])) :
  pr.ev 27 [encE (.mk k o v t nm s g d a),.int .i64 (i : Int)] [] = some (.ret (.str (Ex.inn (kO x))),[]) := by
 have := zsI (e := .mk k o v t nm s g d a) hx hl hT hp
 rwa [if_neg (show ¬ (Ex.E.mk k o v t nm s g d a).kind = 3 from hk)] at this
end
set_option maxHeartbeats 4000000 in
theorem zsK : ∀ (n : Nat) (e : Ex.E),Ex.deep e ≤ n → Ex.count e ≤ 400000 → Ex.right e = true → Qt e → (Ex.print e).length ≤ 100000000 → pr.ev 12 [encE e] [] = some (.ret (.str (Ex.print e)),[])
 | 0,.mk k o v t nm s g d a,h,_,_,_,_ => by rw [zbL] at h;omega
 | n + 1,.mk k o v t nm s g d a,h,hc,hR,hQ,hl => by
  rw [zbL] at h
  rw [zcY] at hc
  rw [Ex.right,Bool.and_eq_true,Ex.zga,List.all_eq_true] at hR
  obtain ⟨hO,hR⟩ := hR
  have hS : zrL k d a.length := znp hO
  have hal := zbR a
  have ih : ∀ x ∈ a,(Ex.print x).length ≤ 100000000 → pr.ev 12 [encE x] [] = some (.ret (.str (Ex.print x)),[]) := fun x hx hl => zsK n x (by have := zb1 hx;omega) (by have := zbQ hx;omega) (hR x hx) (hQ.a x hx) hl
  have hv := hQ.v
  have hn := hQ.n
  simp only [Ex.N64,Ex.E.val] at hn hv
  clear hR hQ h hO
  refine pr.of rfl (by simp only [List.map,(zbA _).rd];rfl) rfl (zm5 _ _ _ _) ?_
  rcases hS with rfl | rfl | ⟨rfl,ha⟩ | ⟨rfl,ha⟩ | ⟨rfl,ha⟩ | ⟨rfl,ha⟩ | ⟨rfl,ha⟩ | ⟨rfl,ha⟩ | ⟨rfl,ha⟩ | ⟨rfl,hd⟩ | ⟨rfl,ha⟩ | ⟨rfl,ha⟩ | ⟨rfl,ha⟩
  ·have hpr : Ex.print (.mk 1 o v t nm s g d a) = Ex.valP v := by rw [Ex.print];rfl
   rw [hpr] at hl ⊢
   simp [zaD,mk_0,mk_2,mk_3,mk_4,zab (m_Quote hn.2 hn.1 hv),rtn]
  ·have hpr : Ex.print (.mk 2 o v t nm s g d a) = if t = [] then nm else t ++ [46] ++ nm := by rw [Ex.print];rfl
   rw [hpr] at hl ⊢
   by_cases ht : t = []
   ·simp [zaD,mk_0,mk_5,mk_6,ht,rtn]
   ·rw [if_neg ht] at hl ⊢
    simp only [List.length_append,List.length_cons,List.length_nil] at hl
    simp (disch := first | omega | (simp only [List.length_append,List.length_cons,List.length_nil];omega) | fail) [zaD,mk_0,mk_5,mk_6,ht,add_s,rtn]
  ·obtain ⟨x,rfl⟩ := List.length_eq_one_iff.1 ha
   have hpr : Ex.print (.mk 3 o v t nm s g d [x]) = if o = Ex.wNot then Ex.wNot ++ [32] ++ Ex.innU (kO x) else o ++ Ex.innU (kO x) := by rw [Ex.print];rfl
   rw [hpr] at hl ⊢
   have hl2 : (Ex.innU (kO x)).length + o.length ≤ 100000000 := by
    by_cases ho : o = Ex.wNot
    ·rw [if_pos ho] at hl
     rw [ho];simp only [List.length_append,List.length_cons,List.length_nil] at hl ⊢;omega
    ·rw [if_neg ho] at hl
     simp only [List.length_append,List.length_cons,List.length_nil] at hl
     omega
   clear hl
   have hga := zsY (kO x)
   have Ia := innU_at (o := o) (v := v) (t := t) (nm := nm) (s := s) (g := g) (d := d) (a := [x]) (x := x) (i := 0) rfl (by first | (simp;done) | (simp at hal ⊢;omega)) (by dsimp only at hga;omega) (ih x (by simp) (by dsimp only at hga;omega))
   simp only [Int.natCast_zero] at Ia
   generalize Ex.innU (kO x) = T at *
   simp only [Ex.wNot]
   by_cases ho : o = [110,111,116]
   ·simp (disch := first | omega | (simp only [List.length_append,List.length_cons,List.length_nil];omega) | fail) [-Int.natCast_add,zaD,zav,mk_0,mk_1,mk_8,zb6,add_s,rtn,ho,zab Ia]
    subst ho
    simp (disch := first | omega | (simp only [List.length_append,List.length_cons,List.length_nil];omega) | fail) [-Int.natCast_add,zaD,zav,mk_0,mk_1,mk_8,zb6,add_s,rtn,zab Ia]
   ·simp (disch := first | omega | (simp only [List.length_append,List.length_cons,List.length_nil];omega) | fail) [-Int.natCast_add,zaD,zav,mk_0,mk_1,mk_8,zb6,add_s,rtn,ho,zab Ia]
  ·obtain ⟨x,y,rfl⟩ := Ex.len2 ha
   have hpr : Ex.print (.mk 4 o v t nm s g d [x,y]) = Ex.inn (kO x) ++ [32] ++ o ++ [32] ++ Ex.inn (kO y) := by rw [Ex.print];rfl
   rw [hpr] at hl ⊢
   simp only [List.length_append,List.length_cons,List.length_nil] at hl
   have hga := zdc (kO x)
   have Ia := ze7 (by decide) (k := 4) (o := o) (v := v) (t := t) (nm := nm) (s := s) (g := g) (d := d) (a := [x,y]) (x := x) (i := 0) rfl (by first | (simp;done) | (simp at hal ⊢;omega)) (by dsimp only at hga;omega) (ih x (by simp) (by dsimp only at hga;omega))
   simp only [Int.natCast_zero] at Ia
   have hgb := zdc (kO y)
   have Ib := ze7 (by decide) (k := 4) (o := o) (v := v) (t := t) (nm := nm) (s := s) (g := g) (d := d) (a := [x,y]) (x := y) (i := 1) rfl (by first | (simp;done) | (simp at hal ⊢;omega)) (by dsimp only at hgb;omega) (ih y (by simp) (by dsimp only at hgb;omega))
   simp only [Int.natCast_one] at Ib
   generalize Ex.inn (kO x) = T at *
   generalize Ex.inn (kO y) = U at *
   simp (disch := first | omega | (simp only [List.length_append,List.length_cons,List.length_nil];omega) | fail) [-Int.natCast_add,zaD,zav,mk_0,mk_1,mk_8,zb6,add_s,rtn,zab Ia,zab Ib]
  ·obtain ⟨x,y,rfl⟩ := Ex.len2 ha
   have hpr : Ex.print (.mk 5 o v t nm s g d [x,y]) = Ex.inn (kO x) ++ [32] ++ Ex.wIs ++ [32] ++ (if g then Ex.wNot ++ [32] else []) ++ Ex.inn (kO y) := by rw [Ex.print];rfl
   rw [hpr] at hl ⊢
   simp only [List.length_append,List.length_cons,List.length_nil] at hl
   have hga := zdc (kO x)
   have Ia := ze7 (by decide) (k := 5) (o := o) (v := v) (t := t) (nm := nm) (s := s) (g := g) (d := d) (a := [x,y]) (x := x) (i := 0) rfl (by first | (simp;done) | (simp at hal ⊢;omega)) (by dsimp only at hga;omega) (ih x (by simp) (by dsimp only at hga;omega))
   simp only [Int.natCast_zero] at Ia
   have hgb := zdc (kO y)
   have Ib := ze7 (by decide) (k := 5) (o := o) (v := v) (t := t) (nm := nm) (s := s) (g := g) (d := d) (a := [x,y]) (x := y) (i := 1) rfl (by first | (simp;done) | (simp at hal ⊢;omega)) (by dsimp only at hgb;omega) (ih y (by simp) (by dsimp only at hgb;omega))
   simp only [Int.natCast_one] at Ib
   generalize Ex.inn (kO x) = T at *
   generalize Ex.inn (kO y) = U at *
   cases g <;> simp (disch := first | omega | (simp only [List.length_append,List.length_cons,List.length_nil];omega) | fail) [-Int.natCast_add,zaD,zav,mk_0,mk_1,mk_8,zb6,add_s,rtn,zab Ia,zab Ib,Ex.wIs,Ex.wNot]
  ·obtain ⟨x,r,rfl⟩ : ∃ x r,a = x :: r := by
    cases a with
    | nil => simp at ha
    | cons x r => exact ⟨x,r,rfl⟩
   have hpr : Ex.print (.mk 6 o v t nm s g d (x :: r)) = Ex.inn (kO x) ++ Ex.notW g [105,110] ++ [40] ++ Ex.commas (Ex.prints r) ++ [41] := by rw [Ex.print];rfl
   rw [hpr] at hl ⊢
   simp only [List.length_append,List.length_cons,List.length_nil] at hl
   have hga := zdc (kO x)
   have Ia := ze7 (by decide) (k := 6) (o := o) (v := v) (t := t) (nm := nm) (s := s) (g := g) (d := d) (a := (x :: r)) (x := x) (i := 0) rfl (by first | (simp;done) | (simp at hal ⊢;omega)) (by dsimp only at hga;omega) (ih x (by simp) (by dsimp only at hga;omega))
   simp only [Int.natCast_zero] at Ia
   have Fn := m_not (e := .mk 6 o v t nm s g d (x :: r)) (w := [105,110]) (by decide)
   simp only [Ex.E.neg] at Fn
   have Fl := zpT r (by simp at hal;omega) (fun z hz => ih z (by simp [hz]) (by have := zeh hz;omega)) (by omega)
   have sl := zgV 11 encE (x :: r) 1 (fun e => zdr e) (by simp)
   simp only [Int.natCast_one,List.map_cons,List.drop_succ_cons,List.drop_zero] at sl
   have hmm : zhJ .min (.int .i64 1) (.int .i64 ((r.length + 1 : Nat) : Int)) = some (.int .i64 1) := by
    have : ¬ (((r.length + 1 : Nat) : Int) < 1) := by omega
    simp [zhJ, -Int.natCast_add,this]
   generalize Ex.inn (kO x) = T at *
   generalize Ex.notW g [105,110] = U at *
   generalize Ex.commas (Ex.prints r) = W at *
   simp (disch := first | omega | (simp only [List.length_append,List.length_cons,List.length_nil];omega) | fail) [-Int.natCast_add,zaD,zav,mk_0,mk_1,mk_8,zb6,add_s,rtn,zab Ia,zab Fn,zab Fl,sl,hmm]
  ·obtain ⟨x,y,z,rfl⟩ := Ex.len3 ha
   have hpr : Ex.print (.mk 7 o v t nm s g d [x,y,z]) = Ex.inn (kO x) ++ Ex.notW g [98,101,116,119,101,101,110] ++ Ex.inn (kO y) ++ [32] ++ Ex.wAnd ++ [32] ++ Ex.inn (kO z) := by rw [Ex.print];rfl
   rw [hpr] at hl ⊢
   simp only [List.length_append,List.length_cons,List.length_nil] at hl
   have hga := zdc (kO x)
   have Ia := ze7 (by decide) (k := 7) (o := o) (v := v) (t := t) (nm := nm) (s := s) (g := g) (d := d) (a := [x,y,z]) (x := x) (i := 0) rfl (by first | (simp;done) | (simp at hal ⊢;omega)) (by dsimp only at hga;omega) (ih x (by simp) (by dsimp only at hga;omega))
   simp only [Int.natCast_zero] at Ia
   have hgb := zdc (kO y)
   have Ib := ze7 (by decide) (k := 7) (o := o) (v := v) (t := t) (nm := nm) (s := s) (g := g) (d := d) (a := [x,y,z]) (x := y) (i := 1) rfl (by first | (simp;done) | (simp at hal ⊢;omega)) (by dsimp only at hgb;omega) (ih y (by simp) (by dsimp only at hgb;omega))
   simp only [Int.natCast_one] at Ib
   have hgc := zdc (kO z)
   have Ic := ze7 (by decide) (k := 7) (o := o) (v := v) (t := t) (nm := nm) (s := s) (g := g) (d := d) (a := [x,y,z]) (x := z) (i := 2) rfl (by first | (simp;done) | (simp at hal ⊢;omega)) (by dsimp only at hgc;omega) (ih z (by simp) (by dsimp only at hgc;omega))
   simp only [show ((2 : Nat) : Int) = 2 from rfl] at Ic
   have Fn := m_not (e := .mk 7 o v t nm s g d [x,y,z]) (w := [98,101,116,119,101,101,110]) (by decide)
   simp only [Ex.E.neg] at Fn
   generalize Ex.inn (kO x) = T at *
   generalize Ex.inn (kO y) = U at *
   generalize Ex.inn (kO z) = W at *
   generalize Ex.notW g [98,101,116,119,101,101,110] = X at *
   simp (disch := first | omega | (simp only [List.length_append,List.length_cons,List.length_nil];omega) | fail) [-Int.natCast_add,zaD,zav,mk_0,mk_1,mk_8,zb6,add_s,rtn,zab Ia,zab Ib,zab Ic,zab Fn,Ex.wAnd]
  ·obtain ⟨x,y,rfl⟩ := Ex.len2 ha
   have hpr : Ex.print (.mk 8 o v t nm s g d [x,y]) = Ex.inn (kO x) ++ Ex.notW g [108,105,107,101] ++ Ex.inn (kO y) := by rw [Ex.print];rfl
   rw [hpr] at hl ⊢
   simp only [List.length_append,List.length_cons,List.length_nil] at hl
   have hga := zdc (kO x)
   have Ia := ze7 (by decide) (k := 8) (o := o) (v := v) (t := t) (nm := nm) (s := s) (g := g) (d := d) (a := [x,y]) (x := x) (i := 0) rfl (by first | (simp;done) | (simp at hal ⊢;omega)) (by dsimp only at hga;omega) (ih x (by simp) (by dsimp only at hga;omega))
   simp only [Int.natCast_zero] at Ia
   have hgb := zdc (kO y)
   have Ib := ze7 (by decide) (k := 8) (o := o) (v := v) (t := t) (nm := nm) (s := s) (g := g) (d := d) (a := [x,y]) (x := y) (i := 1) rfl (by first | (simp;done) | (simp at hal ⊢;omega)) (by dsimp only at hgb;omega) (ih y (by simp) (by dsimp only at hgb;omega))
   simp only [Int.natCast_one] at Ib
   have Fn := m_not (e := .mk 8 o v t nm s g d [x,y]) (w := [108,105,107,101]) (by decide)
   simp only [Ex.E.neg] at Fn
   generalize Ex.inn (kO x) = T at *
   generalize Ex.inn (kO y) = U at *
   generalize Ex.notW g [108,105,107,101] = X at *
   simp (disch := first | omega | (simp only [List.length_append,List.length_cons,List.length_nil];omega) | fail) [-Int.natCast_add,zaD,zav,mk_0,mk_1,mk_8,zb6,add_s,rtn,zab Ia,zab Ib,zab Fn]
  ·have hpr : Ex.print (.mk 9 o v t nm s g d a) = Ex.zf2 d (Ex.prints a) := by rw [Ex.print];rfl
   rw [hpr] at hl ⊢
   have F := m_case o v t nm s g d a (by omega) (fun _ h0 => by subst h0;simp at ha) hl (fun x hx => ih x hx (by have := zmz (d := d) hx;omega))
   simp (disch := first | omega | (simp only [List.length_append,List.length_cons,List.length_nil];omega) | fail) [-Int.natCast_add,zaD,zav,mk_0,mk_1,mk_8,zb6,add_s,rtn,zab F]
  ·have hpr : Ex.print (.mk 10 o v t nm s g d a) = o ++ [40] ++ Ex.commas (Ex.prints a) ++ [41] := by rw [Ex.print,Ex.pr];simp [Ex.E.kind,Ex.E.dist,hd,Ex.E.op]
   rw [hpr] at hl ⊢
   simp only [List.length_append,List.length_cons,List.length_nil] at hl
   have Fl := zpT a (by omega) (fun z hz => ih z hz (by have := zeh hz;omega)) (by omega)
   have F := zsJ o v t nm s g d a _ (by simp only [List.length_append,List.length_cons,List.length_nil];omega) Fl
   simp (disch := first | omega | (simp only [List.length_append,List.length_cons,List.length_nil];omega) | fail) [-Int.natCast_add,zaD,zav,mk_0,mk_1,mk_8,zb6,add_s,rtn,zab F]
  ·obtain ⟨x,rfl⟩ := List.length_eq_one_iff.1 ha
   have hpr : Ex.print (.mk 11 o v t nm s g d [x]) = if d then o ++ [40] ++ Ex.wDistinct ++ [32] ++ Ex.print x ++ [41] else o ++ [40] ++ Ex.print x ++ [41] := by rw [Ex.print,Ex.prints,Ex.prints,Ex.pr];cases d <;> simp [Ex.E.kind,Ex.E.dist,Ex.E.op,Ex.commas]
   rw [hpr] at hl ⊢
   have hl2 : (Ex.print x).length + o.length ≤ 100000000 := by
    cases d <;> simp at hl <;> omega
   have F := zqP o v t nm s g d x hl2 (ih x (by simp) (by omega))
   simp (disch := first | omega | (simp only [List.length_append,List.length_cons,List.length_nil];omega) | fail) [-Int.natCast_add,zaD,zav,mk_0,mk_1,mk_8,zb6,add_s,rtn,zab F]
  ·obtain rfl : a = [] := List.eq_nil_of_length_eq_zero (by first | exact ha | exact ha.1)
   have hpr : Ex.print (.mk 11 o v t nm s g d []) = o ++ [40,42,41] := by rw [Ex.print,Ex.prints,Ex.pr];simp [Ex.E.kind,Ex.E.op]
   rw [hpr] at hl ⊢
   simp only [List.length_append,List.length_cons,List.length_nil] at hl
   have F := zoJ o v t nm s g d (by omega)
   simp (disch := first | omega | (simp only [List.length_append,List.length_cons,List.length_nil];omega) | fail) [-Int.natCast_add,zaD,zav,mk_0,mk_1,mk_8,zb6,add_s,rtn,zab F]
  ·obtain ⟨x,rfl⟩ := List.length_eq_one_iff.1 ha
   have hpr : Ex.print (.mk 12 o v t nm s g d [x]) = Ex.wCast ++ [40] ++ Ex.print x ++ [32] ++ Ex.wAs ++ [32] ++ o ++ [41] := by rw [Ex.print,Ex.prints,Ex.prints,Ex.pr];simp [Ex.E.kind,Ex.E.op,Ex.kid]
   rw [hpr] at hl ⊢
   simp only [List.length_append,List.length_cons,List.length_nil] at hl
   have hpt := zjS (e := .mk 12 o v t nm s g d [x]) (x := x) (i := 0) rfl (by simp [Ex.E.args])
   simp only [Int.natCast_zero] at hpt
   have Ip := ih x (by simp) (by omega)
   generalize Ex.print x = T at *
   simp (disch := first | omega | (simp only [List.length_append,List.length_cons,List.length_nil];omega) | fail) [-Int.natCast_add,zaD,zav,mk_0,mk_1,mk_8,zb6,add_s,rtn,zab hpt,zab Ip,Ex.wCast,Ex.wAs]
end Go.Proofs.YtakegkongmnekaaGreatDoor
namespace Go.Proofs.YtakegkongmnekaaGreatDoor
open Go.RowKit
open Vm
variable [Gl]
theorem zho (k : Int) (o : Ex.S) (v : Ex.V) (t n : Ex.S) (s : Int) (g d : Bool) (a : List Ex.E) : cell (encE (.mk k o v t n s g d a)) 10 = .list (a.map encE) := by rw [enc_mk];rfl
theorem zj8 (e : Ex.E) (a : List Ex.E) (he : cell (encE e) 10 = .list (a.map encE)) (h : ∀ x ∈ a,pr.ev 24 [encE x] [] = some (.ret (.int .i64 (Ex.count x : Nat)),[])) : ∀ (n i m : Nat),i + n = a.length → i ≤ 900000 → m + Ex.counts (a.drop i) ≤ 900000 → a.length ≤ 900000 →
  lup Out (zbV pr.ev lup) [.int .i64 (m : Nat),.int .i64 (i : Nat),encE e] = some (.ret (.int .i64 ((m + Ex.counts (a.drop i) : Nat) : Int)),[])
 | 0,i,m,hi,_,hm,_ => by
  have h1 : ¬ i < a.length := by omega
  have h2 : a.drop i = [] := List.drop_of_length_le (by omega)
  rw [zaX]
  simp [-Int.natCast_add,zbV,he,h1,h2,Ex.counts,rtn]
 | n + 1,i,m,hi,h9,hm,ha => by
  have h1 : i < a.length := by omega
  have h2 : a.drop i = a[i] :: a.drop (i + 1) := List.drop_eq_getElem_cons h1
  have hmem : a[i] ∈ a := List.getElem_mem h1
  rw [h2,Ex.counts] at hm
  have ih := zj8 e a he h n (i + 1) (m + Ex.count a[i]) (by omega) (by omega) (by omega) ha
  have hw : IntKind.wrap .i64 ((m : Int) + (Ex.count a[i] : Int)) = ((m + Ex.count a[i] : Nat) : Int) := by rw [zdF (by omega) (by omega)];simp
  rw [zaX,h2,Ex.counts,← Nat.add_assoc,← ih]
  simp [-Int.natCast_add,zbV,he,h1,zbt,zbg,zab (h _ hmem),zcP (show i ≤ 1000000 by omega),hw]
theorem zr9 : ∀ (n : Nat) (e : Ex.E),Ex.deep e ≤ n → Ex.count e ≤ 900000 → pr.ev 24 [encE e] [] = some (.ret (.int .i64 (Ex.count e : Nat)),[])
 | 0,.mk k o v t nm s g d a,h,_ => by rw [zbL] at h;omega
 | n + 1,.mk k o v t nm s g d a,h,hc => by
  rw [zbL] at h
  rw [zcY] at hc ⊢
  have hal := zbR a
  have ih : ∀ x ∈ a,pr.ev 24 [encE x] [] = some (.ret (.int .i64 (Ex.count x : Nat)),[]) := fun x hx => zr9 n x (by have := zb1 hx;omega) (by have := zbQ hx;omega)
  have hl := zj8 (.mk k o v t nm s g d a) a (zho ..) ih a.length 0 1 (by omega) (by omega) (by rw [List.drop_zero];omega) (by omega)
  refine pr.of rfl (by simp only [List.map,(zbA _).rd];rfl) rfl (zhR _ _ _ _) ?_
  rw [List.drop_zero,Nat.add_comm] at hl
  simpa [-Int.natCast_add,zeJ] using hl
theorem zkQ (e f : Ex.E) (a b : List Ex.E) (he : cell (encE e) 10 = .list (a.map encE)) (hf : cell (encE f) 10 = .list (b.map encE)) (hab : a.length = b.length) (ha : a.length ≤ 900000) (h : ∀ x ∈ a,∀ y ∈ b,pr.ev 22 [encE x,encE y] [] = some (.ret (.bool (Ex.same x y)),[])) : ∀ (n i : Nat),i + n = a.length →
  lup Out (zbB pr.ev lup) [.int .i64 (i : Nat),encE e,encE f] = some (.ret (.bool (Ex.sames (a.drop i) (b.drop i))),[])
 | 0,i,hi => by
  have h1 : ¬ i < a.length := by omega
  have h2 : a.drop i = [] := List.drop_of_length_le (by omega)
  rw [zaX]
  simp [-Int.natCast_add,zbB,he,h1,h2,Ex.sames,rtn]
 | n + 1,i,hi => by
  have h1 : i < a.length := by omega
  have h1' : i < b.length := by omega
  have h2 : a.drop i = a[i] :: a.drop (i + 1) := List.drop_eq_getElem_cons h1
  have h3 : b.drop i = b[i] :: b.drop (i + 1) := List.drop_eq_getElem_cons h1'
  have ih := zkQ e f a b he hf hab ha h n (i + 1) (by omega)
  have hx := h _ (List.getElem_mem h1) _ (List.getElem_mem h1')
  rw [zaX,h2,h3,Ex.sames]
  cases hs : Ex.same a[i] b[i]
  ·rw [hs] at hx
   simp [-Int.natCast_add,zbB,he,hf,h1,h1',zbt,zbg,zab hx,hs,rtn]
  ·rw [hs] at hx
   simp [-Int.natCast_add,zbB,he,hf,h1,h1',zbt,zbg,zab hx,hs,zcP (show i ≤ 1000000 by omega),ih]
theorem zfY (a b a' b' : Int) (c c' : List UInt8) : binV .neq true true false (.agg [.int .i64 a,.int .i64 b,.str c]) (.agg [.int .i64 a',.int .i64 b',.str c']) = some (.bool (!((a,b,c) == (a',b',c')))) := by
 have h : ((a,b,c) == (a',b',c')) = (a == a' && (b == b' && c == c')) := rfl
 rw [h]
 rfl
theorem r_Same : ∀ (n : Nat) (e f : Ex.E),Ex.deep e ≤ n → Ex.count e ≤ 900000 → Ex.count f ≤ 900000 → Ex.Sh e → Ex.Sh f → pr.ev 22 [encE e,encE f] [] = some (.ret (.bool (Ex.same e f)),[])
 | 0,.mk k o v t nm s g d a,_,h,_,_,_,_ => by rw [zbL] at h;omega
 | n + 1,.mk k o (v1,v2,v3) t nm s g d a,.mk k' o' (v1',v2',v3') t' nm' s' g' d' a',h,hc,hc',hS,hS' => by
  rw [zbL] at h
  rw [zcY] at hc hc'
  have hal := zbR a
  have hal' := zbR a'
  have ft : t.length ≤ 1000000 := hS.t
  have fn : nm.length ≤ 1000000 := hS.n
  have ft' : t'.length ≤ 1000000 := hS'.t
  have fn' : nm'.length ≤ 1000000 := hS'.n
  have ih : ∀ x ∈ a,∀ y ∈ a',pr.ev 22 [encE x,encE y] [] = some (.ret (.bool (Ex.same x y)),[]) := fun x hx y hy => r_Same n x y (by have := zb1 hx;omega) (by have := zbQ hx;omega) (by have := zbQ hy;omega) (hS.a x hx) (hS'.a y hy)
  have hl := fun hab => zkQ (.mk k o (v1,v2,v3) t nm s g d a) (.mk k' o' (v1',v2',v3') t' nm' s' g' d' a') a a' (zho ..) (zho ..) hab (by omega) ih a.length 0 (by omega)
  refine pr.of rfl (by simp only [List.map,(zbA _).rd];rfl) rfl (ziv _ _ _ _ _) ?_
  rw [Ex.same]
  rw [enc_mk,enc_mk] at hl ⊢
  by_cases c1 : k = k'
  rotate_left
  ·simp [-Int.natCast_add,zaF,zal,ckA_agg,c1,rtn]
  by_cases c2 : o = o'
  rotate_left
  ·simp [-Int.natCast_add,zaF,zal,ckA_agg,c1,c2,rtn]
  by_cases c3 : (v1,v2,v3) = (v1',v2',v3')
  rotate_left
  ·have c3' : ((v1,v2,v3) == (v1',v2',v3')) = false := by simpa only [beq_eq_false_iff_ne] using c3
   simp [-Int.natCast_add, -Prod.mk.injEq,zaF,zal,ckA_agg,c1,c2,zfY,c3',c3,rtn]
  have c3' : ((v1,v2,v3) == (v1',v2',v3')) = true := by rw [c3];exact beq_self_eq_true _
  by_cases c4 : Lx.fold t = Lx.fold t'
  rotate_left
  ·simp [-Int.natCast_add, -Prod.mk.injEq,zaF,zal,ckA_agg,c1,c2,zfY,c3,c3',zab (zaZ ft),zab (zaZ ft'),c4,rtn]
   try simp [c4]
  by_cases c5 : Lx.fold nm = Lx.fold nm'
  rotate_left
  ·simp [-Int.natCast_add, -Prod.mk.injEq,zaF,zal,ckA_agg,c1,c2,zfY,c3,c3',zab (zaZ ft),zab (zaZ ft'),zab (zaZ fn),zab (zaZ fn'),c4,c5,rtn]
   try simp [c5]
  by_cases c6 : s = s'
  rotate_left
  ·simp [-Int.natCast_add, -Prod.mk.injEq,zaF,zal,ckA_agg,c1,c2,zfY,c3,c3',zab (zaZ ft),zab (zaZ ft'),zab (zaZ fn),zab (zaZ fn'),c4,c5,c6,rtn]
   try simp [c6]
  by_cases c7 : g = g'
  rotate_left
  ·simp [-Int.natCast_add, -Prod.mk.injEq,zaF,zal,ckA_agg,c1,c2,zfY,c3,c3',zab (zaZ ft),zab (zaZ ft'),zab (zaZ fn),zab (zaZ fn'),c4,c5,c6,c7,rtn]
   try simp [c7]
  by_cases c8 : d = d'
  rotate_left
  ·simp [-Int.natCast_add, -Prod.mk.injEq,zaF,zal,ckA_agg,c1,c2,zfY,c3,c3',zab (zaZ ft),zab (zaZ ft'),zab (zaZ fn),zab (zaZ fn'),c4,c5,c6,c7,c8,rtn]
   try simp [c8]
  by_cases c9 : a.length = a'.length
  rotate_left
  ·simp [-Int.natCast_add, -Prod.mk.injEq,zaF,zal,ckA_agg,c1,c2,zfY,c3,c3',zab (zaZ ft),zab (zaZ ft'),zab (zaZ fn),zab (zaZ fn'),c4,c5,c6,c7,c8,show ¬ ((a.length : Int) = (a'.length : Int)) by omega,rtn]
   try simp [c9]
  have hll := hl c9
  simp only [List.drop_zero] at hll
  simp only [Prod.mk.injEq] at c3
  obtain ⟨rfl,rfl,rfl⟩ := c3
  subst c1 c2 c6 c7 c8
  simp [-Int.natCast_add,zaF,zal,ckA_agg,zfY,zab (zaZ ft),zab (zaZ ft'),zab (zaZ fn),zab (zaZ fn'),c4,c5,c9,rtn]
  simpa [-Int.natCast_add] using hll
end Go.Proofs.YtakegkongmnekaaGreatDoor
namespace Go.Proofs.YtakegkongmnekaaGreatDoor
open Go.RowKit
open Vm
variable [Gl]
theorem zj3 (e f : Ex.E) (a b : List Ex.E) (he : cell (encE e) 10 = .list (a.map encE)) (hf : cell (encE f) 10 = .list (b.map encE)) (hab : a.length = b.length) (ha : a.length ≤ 900000) (h : ∀ x ∈ a,∀ y ∈ b,pr.ev 9 [encE x,encE y] [] = some (.ret (.bool (Ex.equal x y)),[])) : ∀ (n i : Nat),i + n = a.length →
  lup Out (zbn pr.ev lup) [.int .i64 (i : Nat),encE e,encE f] = some (.ret (.bool (Ex.equals (a.drop i) (b.drop i))),[])
 | 0,i,hi => by
  have h1 : ¬ i < a.length := by omega
  have h2 : a.drop i = [] := List.drop_of_length_le (by omega)
  rw [zaX]
  simp [-Int.natCast_add,zbn,he,h1,h2,Ex.equals,rtn]
 | n + 1,i,hi => by
  have h1 : i < a.length := by omega
  have h1' : i < b.length := by omega
  have h2 : a.drop i = a[i] :: a.drop (i + 1) := List.drop_eq_getElem_cons h1
  have h3 : b.drop i = b[i] :: b.drop (i + 1) := List.drop_eq_getElem_cons h1'
  have ih := zj3 e f a b he hf hab ha h n (i + 1) (by omega)
  have hx := h _ (List.getElem_mem h1) _ (List.getElem_mem h1')
  rw [zaX,h2,h3,Ex.equals]
  cases hs : Ex.equal a[i] b[i]
  ·rw [hs] at hx
   simp [-Int.natCast_add,zbn,he,hf,h1,h1',zbt,zbg,zab hx,hs,rtn]
  ·rw [hs] at hx
   simp [-Int.natCast_add,zbn,he,hf,h1,h1',zbt,zbg,zab hx,hs,zcP (show i ≤ 1000000 by omega),ih]
theorem enc_5 (k : Int) (o : Ex.S) (v : Ex.V) (t n : Ex.S) (s : Int) (g d : Bool) (a : List Ex.E) : cell (encE (.mk k o v t n s g d a)) 5 = .str t := by rw [enc_mk];rfl
theorem enc_6 (k : Int) (o : Ex.S) (v : Ex.V) (t n : Ex.S) (s : Int) (g d : Bool) (a : List Ex.E) : cell (encE (.mk k o v t n s g d a)) 6 = .str n := by rw [enc_mk];rfl
theorem zox : ∀ (n : Nat) (e f : Ex.E),Ex.deep e ≤ n → Ex.count e ≤ 900000 → Ex.count f ≤ 900000 → Ex.Sh e → Ex.Sh f → pr.ev 9 [encE e,encE f] [] = some (.ret (.bool (Ex.equal e f)),[])
 | 0,.mk k o v t nm s g d a,_,h,_,_,_,_ => by rw [zbL] at h;omega
 | n + 1,.mk k o v t nm s g d a,.mk k' o' v' t' nm' s' g' d' a',h,hc,hc',hS,hS' => by
  have hsm := r_Same _ _ _ h hc hc' hS hS'
  rw [zbL] at h
  rw [zcY] at hc hc'
  have hal := zbR a
  have ih : ∀ x ∈ a,∀ y ∈ a',pr.ev 9 [encE x,encE y] [] = some (.ret (.bool (Ex.equal x y)),[]) := fun x hx y hy => zox n x y (by have := zb1 hx;omega) (by have := zbQ hx;omega) (by have := zbQ hy;omega) (hS.a x hx) (hS'.a y hy)
  have hl := fun hab => zj3 (.mk k o v t nm s g d a) (.mk k' o' v' t' nm' s' g' d' a') a a' (zho ..) (zho ..) hab (by omega) ih a.length 0 (by omega)
  refine pr.of rfl (by simp only [List.map,(zbA _).rd];rfl) rfl (zhQ _ _ _ _ _) ?_
  rw [Ex.equal]
  cases hq : Ex.same (.mk k o v t nm s g d a) (.mk k' o' v' t' nm' s' g' d' a')
  ·rw [hq] at hsm
   simp [-Int.natCast_add,zbU,zaS,zab hsm,rtn]
  ·rw [hq] at hsm
   have hlen : a.length = a'.length := by
    rw [Ex.same] at hq
    simp only [Bool.and_eq_true,beq_iff_eq] at hq
    exact hq.2.2.2.2.2.2.2.2.1
   have hll := hl hlen
   simp only [List.drop_zero] at hll
   by_cases c1 : t = t'
   ·subst c1
    by_cases c2 : nm = nm'
    ·subst c2
     simp [-Int.natCast_add,zbU,zaS,zab hsm,enc_5,enc_6]
     exact hll
    ·simp [-Int.natCast_add,zbU,zaS,zab hsm,enc_5,enc_6,c2,rtn]
   ·simp [-Int.natCast_add,zbU,zaS,zab hsm,enc_5,enc_6,c1,rtn]
end Go.Proofs.YtakegkongmnekaaGreatDoor
namespace Go.Proofs.YtakegkongmnekaaGreatDoor
open Go.RowKit
open Vm
variable [Gl]
theorem bare_end {k : Int} {o : Ex.S} {v : Ex.V} {t n : Ex.S} {g d : Bool} {a b : List Ex.E} {av : Vm.V} (h : accV av b) : zca pr.ev lup (encE (.mk k o v t n 0 g d a)) av = some (.ret (encE (.mk k o v t n 0 g d b)),[]) := by
 rw [enc_mk,enc_mk]
 rcases h with ⟨rfl,rfl⟩ | rfl
 ·simp [zca,ckA_agg,rtn]
 ·simp [zca,ckA_agg,rtn]
theorem zlv (k : Int) (o : Ex.S) (v : Ex.V) (t n : Ex.S) (g d : Bool) (a : List Ex.E) (ha : a.length ≤ 900000) (h : ∀ x ∈ a,pr.ev 15 [encE x] [] = some (.ret (encE (Ex.bare x)),[])) : ∀ (m i : Nat) (av : Vm.V),i + m = a.length → accV av ((a.take i).map Ex.bare) →
  lup Out (zb9 pr.ev lup) [.int .i64 (i : Nat),encE (.mk k o v t n 0 g d a),zE0,av] = some (.ret (encE (.mk k o v t n 0 g d (a.map Ex.bare))),[])
 | 0,i,av,hi,hav => by
  have h1 : ¬ i < a.length := by omega
  have h2 : a.take i = a := List.take_of_length_le (by omega)
  rw [h2] at hav
  rw [zaX]
  simp [-Int.natCast_add,zb9,zho,h1,bare_end hav]
 | m + 1,i,av,hi,hav => by
  have h1 : i < a.length := by omega
  have z2 : agN 11 zE0 = zE0 := agN_agg _ _ rfl
  have hmem : a[i] ∈ a := List.getElem_mem h1
  have h3 : (a.take (i + 1)).map Ex.bare = (a.take i).map Ex.bare ++ [Ex.bare a[i]] := by rw [← List.take_append_getElem h1,List.map_append];rfl
  have hap : appV 11 128 av (.list [encE (Ex.bare a[i])]) = some (.list (((a.take (i + 1)).map Ex.bare).map encE)) := by
   rw [h3]
   exact zmJ hav (l := [Ex.bare a[i]]) (by simp;omega)
  have ih := zlv k o v t n g d a ha h m (i + 1) _ (by omega) (.inr rfl)
  rw [zaX,← ih]
  simp only [zb9,gt_0,gt_s,zho,zsS,Option.bind_some,List.length_map,b0,zqi,ztX,zbi,show ((i : Int) < (a.length : Int)) from by omega,decide_true,if_true,zbt,List.getElem?_eq_getElem h1,Option.map_some,zbg,zgt,zab (h _ hmem),zfE,hap,ar_add,zcP (show i ≤ 1000000 by omega),zlm,z2,zpd]
theorem r_Bare : ∀ (n : Nat) (e : Ex.E),Ex.deep e ≤ n → Ex.count e ≤ 900000 → pr.ev 15 [encE e] [] = some (.ret (encE (Ex.bare e)),[])
 | 0,.mk k o v t nm s g d a,h,_ => by rw [zbL] at h;omega
 | n + 1,.mk k o v t nm s g d a,h,hc => by
  rw [zbL] at h
  rw [zcY] at hc
  have hal := zbR a
  have ih : ∀ x ∈ a,pr.ev 15 [encE x] [] = some (.ret (encE (Ex.bare x)),[]) := fun x hx => r_Bare n x (by have := zb1 hx;omega) (by have := zbQ hx;omega)
  have hl := zlv k o v t nm g d a (by omega) ih a.length 0 .nils (by omega) (.inl ⟨rfl,rfl⟩)
  refine pr.of rfl (by simp only [List.map,(zbA _).rd];rfl) rfl (zix _ _ _ _) ?_
  rw [Ex.bare,Ex.zf3,← hl]
  rw [enc_mk,enc_mk]
  simp only [zff]
  rw [ckA_agg]
  rotate_left
  ·rfl
  ·rfl
  rfl
end Go.Proofs.YtakegkongmnekaaGreatDoor
namespace Go.Proofs.YtakegkongmnekaaGreatDoor
open Go.RowKit
open Vm
variable [Gl]
theorem zlw (s : List UInt8) (l : List (List UInt8)) (hl : l.length ≤ 1000) : ∀ (n i : Nat),i + n = l.length →
  lup Out (zbj pr.ev lup) [.str s,.list (l.map str1),.int .i64 (i : Nat)] = some (.ret (.bool ((l.drop i).contains s)),[])
 | 0,i,hi => by
  have h1 : ¬ i < l.length := by omega
  have h2 : l.drop i = [] := List.drop_of_length_le (by omega)
  rw [zaX]
  simp [-Int.natCast_add,zbj,h1,h2,rtn]
 | n + 1,i,hi => by
  have h1 : i < l.length := by omega
  have h2 : l.drop i = l[i] :: l.drop (i + 1) := List.drop_eq_getElem_cons h1
  have ih := zlw s l hl n (i + 1) (by omega)
  have el : elV 1 (.list (l.map str1)) (.int .i64 (i : Int)) = some (.str l[i]) := by rw [zp9 1 str1 l .i64 i fun _ => rfl];simp [h1,str1]
  have ld : ∀ x : List UInt8,ldV false 1 (.str x) 0 = some (.str x) := fun _ => rfl
  rw [zaX,h2,List.contains_cons]
  by_cases hs : l[i] = s
  ·simp [-Int.natCast_add,zbj,h1,el,ld,hs,rtn]
  ·have hs1 : (l[i] == s) = false := by simpa using hs
   have hs2 : (s == l[i]) = false := by simpa using fun h => hs h.symm
   rw [hs2,Bool.false_or,← ih]
   simp [-Int.natCast_add,zbj,h1,el,ld,hs,zcP (show i ≤ 1000000 by omega)]
theorem zow (s : List UInt8) (l : List (List UInt8)) (hl : l.length ≤ 1000) : pr.ev 48 [.str s,.list (l.map .str)] [] = some (.ret (.bool (l.contains s)),[]) := by
 refine pr.of rfl rfl rfl (zhN _ _ _ _ _) ?_
 have h := zlw s l hl l.length 0 (by omega)
 simpa [-Int.natCast_add,zeI,str1] using h
end Go.Proofs.YtakegkongmnekaaGreatDoor
namespace Go.Proofs.YtakegkongmnekaaGreatDoor
open Go.RowKit
open Vm
variable [Gl]
theorem slS_one (s : List UInt8) (i : Nat) (h : i < s.length) : slS (.str s) (some (.int .i64 (i : Int))) (some (.int .i64 ((i + 1 : Nat) : Int))) = some (.str [s[i]]) := by
 have h1 : (s.take (i + 1)).drop i = [s[i]] := by
  rw [List.take_add_one,List.getElem?_eq_getElem h,List.drop_append,List.drop_of_length_le (by simp;omega)]
  simp [Nat.min_eq_left (Nat.le_of_lt h)]
 have h2 : i + 1 ≤ s.length := h
 simp [slS,zfh,bnd,h1,h2, -Int.natCast_add]
theorem idxV_at (s : List UInt8) (i : Nat) (h : i < s.length) : idxV (.str s) (.int .i64 (i : Int)) = some (.int .u8 (s[i].toNat : Int)) := by
 simp [idxV,List.getElem?_eq_getElem h]
theorem u8_eq (c : UInt8) (k : Nat) (hk : k < 256) : ((c.toNat : Int) = (k : Int)) = (c = UInt8.ofNat k) := by
 refine propext ⟨fun h => ?_,fun h => ?_⟩
 ·have : c.toNat = k := by omega
  rw [← this];simp
 ·subst h;simp;omega
theorem zqH (s : List UInt8) (i : Nat) (h : i < s.length) : Ex.zaU (s.take (i + 1)) = Ex.zaU (s.take i) ++ (if s[i] = 39 then [39,39] else [s[i]]) := by
 have key : ∀ (a b : List UInt8),Ex.zaU (a ++ b) = Ex.zaU a ++ Ex.zaU b := by
  intro a b
  induction a with
  | nil => rfl
  | cons c r ih => rw [List.cons_append,Ex.zaU,Ex.zaU];split <;> simp [ih]
 rw [List.take_add_one,List.getElem?_eq_getElem h,key]
 congr 1
theorem zjG (v : Ex.V) (hs : v.2.2.length ≤ 1000000) : ∀ (n i : Nat),i + n = v.2.2.length →
  lup Out (zbo pr.ev lup) [.str (39 :: Ex.zaU (v.2.2.take i)),.int .i64 (i : Int),.agg [.int .i64 v.1,.int .i64 v.2.1,.str v.2.2]] = some (.ret (.str (39 :: (Ex.zaU v.2.2 ++ [39]))),[])
 | 0,i,hi => by
  obtain rfl : i = v.2.2.length := by omega
  have hq := zge v.2.2
  rw [zaX,List.take_length]
  simp (disch := first | omega | (simp only [List.length_append,List.length_cons,List.length_nil];omega) | rfl | fail) [-Int.natCast_add,zbo,zdJ,add_s,rtn]
 | n + 1,i,hi => by
  have h1 : i < v.2.2.length := by omega
  have ih := zjG v hs n (i + 1) (by omega)
  rw [zqH _ _ h1] at ih
  have hq := zge (v.2.2.take i)
  have hq2 : (v.2.2.take i).length ≤ i := by simp;omega
  have hsl := slS_one v.2.2 i h1
  have hid := idxV_at v.2.2 i h1
  have hw := zcP (show i ≤ 1000000 by omega)
  have hu := u8_eq v.2.2[i] 39 (by decide)
  have hag : agN 3 (Vm.V.agg [.int .i64 v.1,.int .i64 v.2.1,.str v.2.2]) = .agg [.int .i64 v.1,.int .i64 v.2.1,.str v.2.2] := agN_agg _ _ rfl
  rw [zaX,← ih]
  generalize Ex.zaU (v.2.2.take i) = A at *
  by_cases hc : v.2.2[i] = 39
  ·have hcn : (v.2.2[i].toNat : Int) = 39 := by rw [hc];rfl
   rw [hcn] at hid
   simp (disch := first | omega | (simp only [List.length_append,List.length_cons,List.length_nil];omega) | rfl | fail) [-Int.natCast_add,zbo,zbW,h1,hid,hc,hsl,hw,add_s,hag]
  ·have hcn : ¬ (v.2.2[i].toNat : Int) = 39 := by rw [show (39 : Int) = ((39 : Nat) : Int) from rfl,hu];exact hc
   simp (disch := first | omega | (simp only [List.length_append,List.length_cons,List.length_nil];omega) | rfl | fail) [-Int.natCast_add,zbo,zbW,h1,hid,hc,hcn,hsl,hw,add_s,hag]
theorem r_Quote {v : Ex.V} (h1 : -9223372036854775808 ≤ v.2.1) (h2 : v.2.1 ≤ 9223372036854775807) (h3 : v.2.2.length ≤ 1000000) : pr.ev 34 [.agg [.int .i64 v.1,.int .i64 v.2.1,.str v.2.2]] [] = some (.ret (.str (Ex.valP v)),[]) := by
 refine pr.of rfl rfl rfl (zhS _ _ _ _) ?_
 have hx := zoM v.2.2
 unfold Ex.valP
 by_cases k0 : v.1 = 0
 ·simp [zbv,ckA_agg,k0,rtn,Ex.zkk]
 by_cases k1 : v.1 = 1
 ·simp [zbv,ckA_agg,k1,rtn,zab (ev_rnum h1 h2)]
 by_cases k2 : v.1 = 2
 ·have h := zjG v h3 v.2.2.length 0 (by omega)
  rw [k2] at h
  simp only [List.take_zero,Ex.zaU,Int.natCast_zero] at h
  simp [zbv,ckA_agg,k2]
  exact h
 by_cases k3 : v.1 = 3
 ·simp [zbv,ckA_agg,k3,rtn,zab (ev_rhex h3),add_s,show (Ox.hex v.2.2).length ≤ 2000000000 by omega,show (Ox.hex v.2.2).length + 1 + 1 ≤ 2000000000 by omega]
 ·simp [zbv,ckA_agg,k0,k1,k2,k3,rtn]
theorem r_joined (e : Ex.E) : pr.ev 56 [encE e] [] = some (.ret (.bool (Ex.zb0 e.kind)),[]) := by
 refine pr.of rfl (by simp only [List.map,(zbA _).rd];rfl) rfl (zgZ _ _ _ _) ?_
 have h0 : cell (encE e) 0 = .int .i64 e.kind := by cases e;rw [enc_mk];rfl
 unfold Ex.zb0
 by_cases h3 : e.kind = 3
 ·simp [zaR,h0,h3,rtn]
 by_cases h4 : e.kind = 4
 ·simp [zaR,h0,h4,rtn]
 by_cases h5 : e.kind = 5
 ·simp [zaR,h0,h5,rtn]
 by_cases h6 : e.kind = 6
 ·simp [zaR,h0,h6,rtn]
 by_cases h7 : e.kind = 7
 ·simp [zaR,h0,h7,rtn]
 by_cases h8 : e.kind = 8
 ·simp [zaR,h0,h8,rtn]
 ·have : (decide (3 ≤ e.kind) && decide (e.kind ≤ 8)) = false := by
   rw [Bool.and_eq_false_iff,decide_eq_false_iff_not,decide_eq_false_iff_not];omega
  rw [this]
  simp [zaR,h0,h3,h4,h5,h6,h7,h8,rtn]
def PrR (l : List Ex.E) : Prop := ∀ x ∈ l,pr.ev 13 [encE x] [] = some (.ret (.str (Ex.print x)),[])
theorem zeq {x : Ex.E} (hT : (Ex.print x).length ≤ 1000000000) (hp : pr.ev 13 [encE x] [] = some (.ret (.str (Ex.print x)),[])) : pr.ev 35 [encE x] [] = some (.ret (.str (Ex.inn (kO x))),[]) := by
 refine pr.of rfl (by simp only [List.map,(zbA _).rd];rfl) rfl (zhM _ _ _ _) ?_
 have hj := r_joined x
 unfold Ex.inn
 cases h : Ex.zb0 x.kind
 ·rw [h] at hj
  simp [zdf,zab hj,zab hp,rtn,h]
 ·rw [h] at hj
  simp [zdf,zab hj,zab hp,rtn,h,add_s,show (Ex.print x).length ≤ 2000000000 by omega,show (Ex.print x).length + 1 ≤ 2000000000 by omega]
theorem r_not {g : Bool} {w : Ex.S} (hw : w.length ≤ 1000) : pr.ev 36 [.bool g,.str w] [] = some (.ret (.str (Ex.notW g w)),[]) := by
 refine pr.of rfl rfl rfl (zjp _ _ _ _ _) ?_
 cases g <;> simp [sh_tomeref25_not,Ex.notW,add_s,rtn,show w.length ≤ 2000000000 by omega,show w.length + 1 ≤ 2000000000 by omega,show w.length + 1 + 1 + 1 + 1 + 1 ≤ 2000000000 by omega]
theorem zkb (l : List Ex.C) (c : Ex.C) (h : l ≠ []) : Ex.commas (l ++ [c]) = Ex.commas l ++ [44,32] ++ c.2.2 := by
 induction l with
 | nil => exact absurd rfl h
 | cons d r ih =>
  cases r with
  | nil => simp [Ex.commas]
  | cons e r =>
   rw [List.cons_append,Ex.commas,Ex.commas,ih (by simp)]
   ·simp
   ·intro h;cases h
   ·intro h;cases r <;> cases h
theorem ztC (a b : List Ex.C) : (Ex.commas a).length ≤ (Ex.commas (a ++ b)).length := by
 induction b generalizing a with
 | nil => simp
 | cons c r ih =>
  have h := ih (a ++ [c])
  rw [List.append_assoc,List.singleton_append] at h
  refine Nat.le_trans ?_ h
  by_cases ha : a = []
  ·subst ha;simp [Ex.commas]
  ·rw [zkb _ _ ha]
   simp only [List.length_append];omega
theorem zij (l : List Ex.E) (hl : l.length ≤ 900000) (hp : PrR l) (hlen : (Ex.commas (Ex.prints l)).length ≤ 100000000) : ∀ (n i : Nat),i + n = l.length → (Ex.commas (Ex.prints (l.take i))).length ≤ 100000000 →
  lup Out (za5 pr.ev lup) [.list (l.map encE),.str (Ex.commas (Ex.prints (l.take i))),.int .i64 (i : Int)] = some (.ret (.str (Ex.commas (Ex.prints l))),[])
 | 0,i,hi,_ => by
  obtain rfl : i = l.length := by omega
  rw [zaX,List.take_length]
  simp [-Int.natCast_add,za5,rtn]
 | n + 1,i,hi,hb => by
  have h1 : i < l.length := by omega
  have hx := hp _ (List.getElem_mem h1)
  have hm := zeh (List.getElem_mem h1)
  have ht : Ex.prints (l.take (i + 1)) = Ex.prints (l.take i) ++ [(l[i].kind,l[i].val.1,Ex.print l[i])] := by
   rw [List.take_add_one,List.getElem?_eq_getElem h1,Ex.zcw,Ex.zcw]
   simp only [Option.toList_some,List.map_append,List.map_cons,List.map_nil]
  have hw := zcP (show i ≤ 1000000 by omega)
  have hb2 : (Ex.commas (Ex.prints (l.take (i + 1)))).length ≤ 100000000 := by
   have h2 := ztC (Ex.prints (l.take (i + 1))) (Ex.prints (l.drop (i + 1)))
   rw [Ex.zcw,Ex.zcw,← List.map_append,List.take_append_drop,← Ex.zcw,← Ex.zcw] at h2
   omega
  have ih := zij l hl hp hlen n (i + 1) (by omega) hb2
  rw [ht] at ih
  rw [zaX,← ih]
  by_cases h0 : i = 0
  ·subst h0
   have el0 := zbt l 0 .i64
   have hw0 : IntKind.wrap .i64 (0 + 1) = 1 := rfl
   simp only [Int.natCast_zero] at el0
   simp (disch := first | omega | (simp only [List.length_append,List.length_cons,List.length_nil];omega) | rfl | fail) [-Int.natCast_add,za5,zbD,h1,el0,zbg,zab hx,Ex.prints,Ex.commas,add_s,zdF]
  ·have hi0 : 0 < i := by omega
   have hne : Ex.prints (l.take i) ≠ [] := by
    rw [Ex.zcw]
    intro h
    have := congrArg List.length h
    simp at this
    rcases this with h2 | h2
    ·exact h0 h2
    ·subst h2;simp at h1
   rw [zkb _ _ hne]
   generalize Ex.commas (Ex.prints (l.take i)) = A at *
   simp (disch := first | omega | (simp only [List.length_append,List.length_cons,List.length_nil];omega) | rfl | fail) [-Int.natCast_add,za5,zbD,h1,hi0,zbt,zbg,zab hx,add_s,hw]
theorem zjE (l : List Ex.E) (hl : l.length ≤ 900000) (hp : PrR l) (hlen : (Ex.commas (Ex.prints l)).length ≤ 100000000) : pr.ev 37 [.list (l.map encE)] [] = some (.ret (.str (Ex.commas (Ex.prints l))),[]) := by
 refine pr.of rfl rfl rfl (zgB _ _ _ _) ?_
 have h := zij l hl hp hlen l.length 0 (by omega) (by simp [Ex.prints,Ex.commas])
 simp only [List.take_zero,Ex.prints,Ex.commas,Int.natCast_zero] at h
 simpa [zdZ] using h
end Go.Proofs.YtakegkongmnekaaGreatDoor
namespace Go.Proofs.YtakegkongmnekaaGreatDoor
open Go.RowKit
open Vm
variable [Gl]
theorem zll (x : Ex.E) : ldV false 1 (encE x) 0 = some (.int .i64 x.kind) := by cases x;rw [enc_mk];rfl
theorem zlk (x : Ex.E) : ldV false 1 (encE x) 2 = some (.int .i64 x.val.1) := by cases x;rw [enc_mk];rfl
def zsT (k : Int) (d : Bool) : Int := if k = 3 ∨ k = 6 ∨ k = 12 then 1 else if k = 4 ∨ k = 5 ∨ k = 8 then 2 else if k = 7 then 3 else if k = 9 ∧ d = true then 1 else 0
theorem r_least (k : Int) (o : Ex.S) (v : Ex.V) (t n : Ex.S) (s : Int) (g d : Bool) (a : List Ex.E) : pr.ev 33 [encE (.mk k o v t n s g d a)] [] = some (.ret (.int .i64 (zsT k d)),[]) := by
 refine pr.of rfl (by simp only [List.map,(zbA _).rd];rfl) rfl (zhL _ _ _ _) ?_
 unfold zsT
 by_cases h3 : k = 3
 ·simp [sh_tomeref25_least,sh_tomeref25_least_j1,mk_0,h3,rtn]
 by_cases h6 : k = 6
 ·simp [sh_tomeref25_least,sh_tomeref25_least_j1,mk_0,h6,rtn]
 by_cases h12 : k = 12
 ·simp [sh_tomeref25_least,sh_tomeref25_least_j1,mk_0,h12,rtn]
 by_cases h4 : k = 4
 ·simp [sh_tomeref25_least,sh_tomeref25_least_j1,zaB,mk_0,h4,rtn]
 by_cases h5 : k = 5
 ·simp [sh_tomeref25_least,sh_tomeref25_least_j1,zaB,mk_0,h5,rtn]
 by_cases h8 : k = 8
 ·simp [sh_tomeref25_least,sh_tomeref25_least_j1,zaB,mk_0,h8,rtn]
 by_cases h7 : k = 7
 ·simp [sh_tomeref25_least,sh_tomeref25_least_j1,zaB,mk_0,h7,rtn]
 by_cases h9 : k = 9
 ·cases d <;> simp [sh_tomeref25_least,sh_tomeref25_least_j1,zaB,mk_0,mk_9,h9,rtn]
 ·simp [sh_tomeref25_least,sh_tomeref25_least_j1,zaB,mk_0,h3,h4,h5,h6,h7,h8,h9,h12,rtn]
theorem zlt (l : List Ex.E) (hl : l.length ≤ 900000) (hp : PrR l) (T : Ex.S) (hT : T.length ≤ 100000000) : ∀ (n i : Nat) (A : Ex.S),l.length ≤ i + n → i % 2 = 0 → i ≤ l.length → A ++ Ex.zcL (Ex.prints (l.drop i)) ++ Ex.wEnd = T →
  lup Out (zbl pr.ev lup) [.str A,.list (l.map encE),.int .i64 (i : Int)] = some (.ret (.str T),[]) := by
 intro n
 induction n using Nat.strongRecOn with
 | _ n ih =>
 intro i A hn hi hle hA
 have hw1 := zcP (show i ≤ 1000000 by omega)
 have hAl : A.length ≤ 100000000 := by
  rw [← hA] at hT;simp only [List.length_append] at hT;omega
 by_cases h2 : i + 1 < l.length
 ·have h0 : i < l.length := by omega
  have hx := hp _ (List.getElem_mem h0)
  have hy := hp _ (List.getElem_mem h2)
  have hd : l.drop i = l[i] :: l[i + 1] :: l.drop (i + 2) := by rw [List.drop_eq_getElem_cons h0,List.drop_eq_getElem_cons h2]
  rw [hd,Ex.prints,Ex.prints,Ex.zcL] at hA
  have hw2 : IntKind.wrap .i64 ((i : Int) + 2) = ((i + 2 : Nat) : Int) := by rw [zdF (by omega) (by omega)];simp
  have hTl : (A ++ (Ex.zcO ++ [32] ++ Ex.print l[i] ++ [32] ++ Ex.wThen ++ [32] ++ Ex.print l[i + 1] ++ [32] ++ Ex.zcL (Ex.prints (l.drop (i + 2)))) ++ Ex.wEnd).length ≤ 100000000 := by rw [hA];exact hT
  simp only [List.length_append] at hTl
  have hr := ih (n - 2) (by omega) (i + 2) (A ++ (Ex.zcO ++ [32] ++ Ex.print l[i] ++ [32] ++ Ex.wThen ++ [32] ++ Ex.print l[i + 1] ++ [32])) (by omega) (by omega) (by omega) (by rw [← hA];simp)
  rw [zaX,← hr]
  generalize Ex.print l[i] = X at *
  generalize Ex.print l[i + 1] = Y at *
  simp (disch := first | omega | (simp only [List.length_append,List.length_cons,List.length_nil];omega) | rfl | fail) [-Int.natCast_add,zbl,h0,h2,hw1,hw2,zbt,zbg,zab hx,zab hy,add_s,Ex.zcO,Ex.wThen]
 ·by_cases h1 : i < l.length
  ·have hil : l.length = i + 1 := by omega
   have hd : l.drop i = [l[i]] := by rw [List.drop_eq_getElem_cons h1,List.drop_of_length_le (by omega)]
   have hx := hp _ (List.getElem_mem h1)
   rw [hd,Ex.prints,Ex.prints,Ex.zcL] at hA
   have hTl : (A ++ (Ex.zgw ++ [32] ++ Ex.print l[i] ++ [32]) ++ Ex.wEnd).length ≤ 100000000 := by rw [hA];exact hT
   simp only [List.length_append] at hTl
   have hm : Int.tmod ((i + 1 : Nat) : Int) 2 = 1 := by rw [Int.tmod_eq_emod_of_nonneg (by omega)];omega
   have hs : IntKind.wrap .i64 (((i + 1 : Nat) : Int) - 1) = (i : Int) := by rw [zdF (by omega) (by omega)];omega
   rw [zaX,← hA]
   generalize Ex.print l[i] = X at *
   simp (disch := first | omega | (simp only [List.length_append,List.length_cons,List.length_nil];omega) | rfl | fail) [-Int.natCast_add,zbl,zcF,zbS,hil,h1,hw1,hm,hs,zdv,zbt,zbg,zab hx,add_s,rtn,Ex.zgw,Ex.wEnd]
  ·have hil : l.length = i := by omega
   rw [List.drop_of_length_le (by omega),Ex.prints,Ex.zcL,List.append_nil] at hA
   have hm : Int.tmod (i : Int) 2 = 0 := by rw [Int.tmod_eq_emod_of_nonneg (by omega)];omega
   have hgt : ¬ ((i + 1 : Nat) : Int) < (i : Int) := by omega
   have hge : ((i : Nat) : Int) ≤ ((i + 1 : Nat) : Int) := by omega
   rw [zaX,← hA]
   simp (disch := first | omega | (simp only [List.length_append,List.length_cons,List.length_nil];omega) | rfl | fail) [-Int.natCast_add,zbl,zcF,zbS,hil,hw1,hm,hgt,hge,zdv,add_s,rtn,Ex.wEnd]
set_option maxHeartbeats 4000000 in
theorem zr8 : ∀ (n : Nat) (e : Ex.E),Ex.deep e ≤ n → Ex.count e ≤ 400000 → Ex.right e = true → Qt e → (Ex.print e).length ≤ 100000000 → pr.ev 13 [encE e] [] = some (.ret (.str (Ex.print e)),[])
 | 0,.mk k o v t nm s g d a,h,_,_,_,_ => by rw [zbL] at h;omega
 | n + 1,.mk k o v t nm s g d a,h,hc,hR,hQ,hl => by
  rw [zbL] at h
  rw [zcY] at hc
  rw [Ex.right,Bool.and_eq_true,Ex.zga,List.all_eq_true] at hR
  obtain ⟨hO,hR⟩ := hR
  have hS : zrL k d a.length := znp hO
  have hal := zbR a
  have ih : ∀ x ∈ a,(Ex.print x).length ≤ 100000000 → pr.ev 13 [encE x] [] = some (.ret (.str (Ex.print x)),[]) := fun x hx hl => zr8 n x (by have := zb1 hx;omega) (by have := zbQ hx;omega) (hR x hx) (hQ.a x hx) hl
  have hv := hQ.v
  have hn := hQ.n
  simp only [Ex.N64,Ex.E.val] at hn hv
  clear hR hQ h hO
  have hle := r_least k o v t nm s g d a
  refine pr.of rfl (by simp only [List.map,(zbA _).rd];rfl) rfl (zhP _ _ _ _) ?_
  rcases hS with rfl | rfl | ⟨rfl,ha⟩ | ⟨rfl,ha⟩ | ⟨rfl,ha⟩ | ⟨rfl,ha⟩ | ⟨rfl,ha⟩ | ⟨rfl,ha⟩ | ⟨rfl,ha⟩ | ⟨rfl,hd⟩ | ⟨rfl,ha⟩ | ⟨rfl,ha⟩ | ⟨rfl,ha⟩
  all_goals simp only [zsT] at hle
  ·have hpr : Ex.print (.mk 1 o v t nm s g d a) = Ex.valP v := by rw [Ex.print];rfl
   rw [hpr] at hl ⊢
   have h0 : ¬ (a.length : Int) < 0 := by omega
   simp at hle
   simp [-Int.natCast_add,zam,mk_0,mk_2,mk_3,mk_4,zb6,zab hle,h0,zab (r_Quote hn.2 hn.1 hv),rtn]
  ·have hpr : Ex.print (.mk 2 o v t nm s g d a) = if t = [] then nm else t ++ [46] ++ nm := by rw [Ex.print];rfl
   rw [hpr] at hl ⊢
   have h0 : ¬ (a.length : Int) < 0 := by omega
   simp at hle
   by_cases ht : t = []
   ·subst ht
    simp [-Int.natCast_add,zam,mk_0,mk_5,mk_6,zb6,zab hle,h0,rtn]
   ·rw [if_neg ht] at hl ⊢
    simp only [List.length_append,List.length_cons,List.length_nil] at hl
    simp (disch := first | omega | (simp only [List.length_append,List.length_cons,List.length_nil];omega) | rfl | fail) [-Int.natCast_add,zam,mk_0,mk_5,mk_6,zb6,zab hle,h0,ht,add_s,rtn]
  ·obtain ⟨x,rfl⟩ := List.length_eq_one_iff.1 ha
   have hpr : Ex.print (.mk 3 o v t nm s g d [x]) = if o = Ex.wNot then Ex.wNot ++ [32] ++ Ex.innU (kO x) else o ++ Ex.innU (kO x) := by rw [Ex.print];rfl
   rw [hpr] at hl ⊢
   have hl2 : (Ex.innU (kO x)).length + o.length ≤ 100000000 := by
    by_cases ho : o = Ex.wNot
    ·rw [if_pos ho] at hl
     rw [ho];simp only [List.length_append,List.length_cons,List.length_nil] at hl ⊢;omega
    ·rw [if_neg ho] at hl
     simp only [List.length_append,List.length_cons,List.length_nil] at hl
     omega
   clear hl
   have hga := zsY (kO x)
   dsimp only at hga
   have Ia := zeq (x := x) (by omega) (ih x (by simp) (by omega))
   have hin : Ex.innU (kO x) = if x.kind = 1 ∧ x.val.1 = 1 then 40 :: (Ex.inn (kO x) ++ [41]) else Ex.inn (kO x) := by
    unfold Ex.innU Ex.inn Ex.zb0 kO
    by_cases k1 : x.kind = 1
    ·simp [k1]
    ·simp [k1]
   simp at hle
   have el0 : elV 11 (.list ([x].map encE)) (.int .i64 0) = some (encE x) := by have := zbt [x] 0 .i64;simpa using this
   simp only [List.map_cons,List.map_nil] at el0
   rw [hin] at hl2 ⊢
   simp only [Ex.wNot]
   by_cases k1 : x.kind = 1 ∧ x.val.1 = 1
   ·rw [if_pos k1] at hl2 ⊢
    obtain ⟨k1,k2⟩ := k1
    simp only [List.length_cons,List.length_append,List.length_nil] at hl2
    generalize Ex.inn (kO x) = T at *
    by_cases ho : o = [110,111,116]
    ·subst ho
     simp (disch := first | omega | (simp only [List.length_append,List.length_cons,List.length_nil];omega) | rfl | fail) [-Int.natCast_add,zam,mk_0,mk_1,mk_8,mk_9,zb6,zab hle,zbg,add_s,rtn,zaI,zaJ,el0,zll,zlk,k1,k2,zab Ia]
    ·simp (disch := first | omega | (simp only [List.length_append,List.length_cons,List.length_nil];omega) | rfl | fail) [-Int.natCast_add,zam,mk_0,mk_1,mk_8,mk_9,zb6,zab hle,zbg,add_s,rtn,zaI,zaJ,el0,zll,zlk,k1,k2,ho,zab Ia]
   ·rw [if_neg k1] at hl2 ⊢
    generalize Ex.inn (kO x) = T at *
    by_cases k2 : x.kind = 1
    ·have k3 : ¬ x.val.1 = 1 := fun h => k1 ⟨k2,h⟩
     by_cases ho : o = [110,111,116]
     ·subst ho
      simp (disch := first | omega | (simp only [List.length_append,List.length_cons,List.length_nil];omega) | rfl | fail) [-Int.natCast_add,zam,mk_0,mk_1,mk_8,mk_9,zb6,zab hle,zbg,add_s,rtn,zaI,zaJ,el0,zll,zlk,k2,k3,zab Ia]
     ·simp (disch := first | omega | (simp only [List.length_append,List.length_cons,List.length_nil];omega) | rfl | fail) [-Int.natCast_add,zam,mk_0,mk_1,mk_8,mk_9,zb6,zab hle,zbg,add_s,rtn,zaI,zaJ,el0,zll,zlk,k2,k3,ho,zab Ia]
    ·by_cases ho : o = [110,111,116]
     ·subst ho
      simp (disch := first | omega | (simp only [List.length_append,List.length_cons,List.length_nil];omega) | rfl | fail) [-Int.natCast_add,zam,mk_0,mk_1,mk_8,mk_9,zb6,zab hle,zbg,add_s,rtn,zaI,zaJ,el0,zll,zlk,k2,zab Ia]
     ·simp (disch := first | omega | (simp only [List.length_append,List.length_cons,List.length_nil];omega) | rfl | fail) [-Int.natCast_add,zam,mk_0,mk_1,mk_8,mk_9,zb6,zab hle,zbg,add_s,rtn,zaI,zaJ,el0,zll,zlk,k2,ho,zab Ia]
  ·obtain ⟨x,y,rfl⟩ := Ex.len2 ha
   have hpr : Ex.print (.mk 4 o v t nm s g d [x,y]) = Ex.inn (kO x) ++ [32] ++ o ++ [32] ++ Ex.inn (kO y) := by rw [Ex.print];rfl
   rw [hpr] at hl ⊢
   simp only [List.length_append,List.length_cons,List.length_nil] at hl
   simp at hle
   have el0 : elV 11 (.list ([x,y].map encE)) (.int .i64 0) = some (encE x) := by have := zbt [x,y] 0 .i64;simpa using this
   have el1 : elV 11 (.list ([x,y].map encE)) (.int .i64 1) = some (encE y) := by have := zbt [x,y] 1 .i64;simpa using this
   simp only [List.map_cons,List.map_nil] at el0 el1
   have hga := zdc (kO x)
   have Ia := zeq (x := x) (by dsimp only at hga;omega) (ih x (by simp) (by dsimp only at hga;omega))
   have hgb := zdc (kO y)
   have Ib := zeq (x := y) (by dsimp only at hgb;omega) (ih y (by simp) (by dsimp only at hgb;omega))
   generalize Ex.inn (kO x) = T at *
   generalize Ex.inn (kO y) = U at *
   simp (disch := first | omega | (simp only [List.length_append,List.length_cons,List.length_nil];omega) | rfl | fail) [-Int.natCast_add,zam,mk_0,mk_1,mk_8,mk_9,zb6,zab hle,zbg,add_s,rtn,el0,el1,zab Ia,zab Ib]
  ·obtain ⟨x,y,rfl⟩ := Ex.len2 ha
   have hpr : Ex.print (.mk 5 o v t nm s g d [x,y]) = Ex.inn (kO x) ++ [32] ++ Ex.wIs ++ [32] ++ (if g then Ex.wNot ++ [32] else []) ++ Ex.inn (kO y) := by rw [Ex.print];rfl
   rw [hpr] at hl ⊢
   simp only [List.length_append,List.length_cons,List.length_nil] at hl
   simp at hle
   have el0 : elV 11 (.list ([x,y].map encE)) (.int .i64 0) = some (encE x) := by have := zbt [x,y] 0 .i64;simpa using this
   have el1 : elV 11 (.list ([x,y].map encE)) (.int .i64 1) = some (encE y) := by have := zbt [x,y] 1 .i64;simpa using this
   simp only [List.map_cons,List.map_nil] at el0 el1
   have hga := zdc (kO x)
   have Ia := zeq (x := x) (by dsimp only at hga;omega) (ih x (by simp) (by dsimp only at hga;omega))
   have hgb := zdc (kO y)
   have Ib := zeq (x := y) (by dsimp only at hgb;omega) (ih y (by simp) (by dsimp only at hgb;omega))
   generalize Ex.inn (kO x) = T at *
   generalize Ex.inn (kO y) = U at *
   cases g <;> simp (disch := first | omega | (simp only [List.length_append,List.length_cons,List.length_nil];omega) | rfl | fail) [-Int.natCast_add,zam,mk_0,mk_1,mk_8,mk_9,zb6,zab hle,zbg,add_s,rtn,el0,el1,zab Ia,zab Ib,Ex.wIs,Ex.wNot]
  ·obtain ⟨x,r,rfl⟩ : ∃ x r,a = x :: r := by
    cases a with
    | nil => simp at ha
    | cons x r => exact ⟨x,r,rfl⟩
   have hpr : Ex.print (.mk 6 o v t nm s g d (x :: r)) = Ex.inn (kO x) ++ Ex.notW g [105,110] ++ [40] ++ Ex.commas (Ex.prints r) ++ [41] := by rw [Ex.print];rfl
   rw [hpr] at hl ⊢
   simp only [List.length_append,List.length_cons,List.length_nil] at hl
   simp at hle
   have el0 : elV 11 (.list ((x :: r).map encE)) (.int .i64 0) = some (encE x) := by have := zbt (x :: r) 0 .i64;simpa using this
   simp only [List.map_cons,List.map_nil] at el0
   have hga := zdc (kO x)
   have Ia := zeq (x := x) (by dsimp only at hga;omega) (ih x (by simp) (by dsimp only at hga;omega))
   have Fn := r_not (g := g) (w := [105,110]) (by decide)
   have Fl := zjE r (by simp at hal;omega) (fun z hz => ih z (by simp [hz]) (by have := zeh hz;omega)) (by omega)
   have sl := zgV 11 encE (x :: r) 1 (fun e => zdr e) (by simp)
   simp only [Int.natCast_one,List.map_cons,List.drop_succ_cons,List.drop_zero] at sl
   have h0 : ¬ ((r.length + 1 : Nat) : Int) < 1 := by omega
   generalize Ex.inn (kO x) = T at *
   generalize Ex.notW g [105,110] = U at *
   generalize Ex.commas (Ex.prints r) = W at *
   simp (disch := first | omega | (simp only [List.length_append,List.length_cons,List.length_nil];omega) | rfl | fail) [-Int.natCast_add,zam,mk_0,mk_1,mk_8,mk_9,zb6,zab hle,zbg,add_s,rtn,el0,h0,zab Ia,zab Fn,zab Fl,sl]
  ·obtain ⟨x,y,z,rfl⟩ := Ex.len3 ha
   have hpr : Ex.print (.mk 7 o v t nm s g d [x,y,z]) = Ex.inn (kO x) ++ Ex.notW g [98,101,116,119,101,101,110] ++ Ex.inn (kO y) ++ [32] ++ Ex.wAnd ++ [32] ++ Ex.inn (kO z) := by rw [Ex.print];rfl
   rw [hpr] at hl ⊢
   simp only [List.length_append,List.length_cons,List.length_nil] at hl
   simp at hle
   have el0 : elV 11 (.list ([x,y,z].map encE)) (.int .i64 0) = some (encE x) := by have := zbt [x,y,z] 0 .i64;simpa using this
   have el1 : elV 11 (.list ([x,y,z].map encE)) (.int .i64 1) = some (encE y) := by have := zbt [x,y,z] 1 .i64;simpa using this
   have el2 : elV 11 (.list ([x,y,z].map encE)) (.int .i64 2) = some (encE z) := by have := zbt [x,y,z] 2 .i64;simpa using this
   simp only [List.map_cons,List.map_nil] at el0 el1 el2
   have hga := zdc (kO x)
   have Ia := zeq (x := x) (by dsimp only at hga;omega) (ih x (by simp) (by dsimp only at hga;omega))
   have hgb := zdc (kO y)
   have Ib := zeq (x := y) (by dsimp only at hgb;omega) (ih y (by simp) (by dsimp only at hgb;omega))
   have hgc := zdc (kO z)
   have Ic := zeq (x := z) (by dsimp only at hgc;omega) (ih z (by simp) (by dsimp only at hgc;omega))
   have Fn := r_not (g := g) (w := [98,101,116,119,101,101,110]) (by decide)
   generalize Ex.inn (kO x) = T at *
   generalize Ex.inn (kO y) = U at *
   generalize Ex.inn (kO z) = W at *
   generalize Ex.notW g [98,101,116,119,101,101,110] = X at *
   simp (disch := first | omega | (simp only [List.length_append,List.length_cons,List.length_nil];omega) | rfl | fail) [-Int.natCast_add,zam,mk_0,mk_1,mk_8,mk_9,zb6,zab hle,zbg,add_s,rtn,el0,el1,el2,zab Ia,zab Ib,zab Ic,zab Fn,Ex.wAnd]
  ·obtain ⟨x,y,rfl⟩ := Ex.len2 ha
   have hpr : Ex.print (.mk 8 o v t nm s g d [x,y]) = Ex.inn (kO x) ++ Ex.notW g [108,105,107,101] ++ Ex.inn (kO y) := by rw [Ex.print];rfl
   rw [hpr] at hl ⊢
   simp only [List.length_append,List.length_cons,List.length_nil] at hl
   simp at hle
   have el0 : elV 11 (.list ([x,y].map encE)) (.int .i64 0) = some (encE x) := by have := zbt [x,y] 0 .i64;simpa using this
   have el1 : elV 11 (.list ([x,y].map encE)) (.int .i64 1) = some (encE y) := by have := zbt [x,y] 1 .i64;simpa using this
   simp only [List.map_cons,List.map_nil] at el0 el1
   have hga := zdc (kO x)
   have Ia := zeq (x := x) (by dsimp only at hga;omega) (ih x (by simp) (by dsimp only at hga;omega))
   have hgb := zdc (kO y)
   have Ib := zeq (x := y) (by dsimp only at hgb;omega) (ih y (by simp) (by dsimp only at hgb;omega))
   have Fn := r_not (g := g) (w := [108,105,107,101]) (by decide)
   generalize Ex.inn (kO x) = T at *
   generalize Ex.inn (kO y) = U at *
   generalize Ex.notW g [108,105,107,101] = X at *
   simp (disch := first | omega | (simp only [List.length_append,List.length_cons,List.length_nil];omega) | rfl | fail) [-Int.natCast_add,zam,mk_0,mk_1,mk_8,mk_9,zb6,zab hle,zbg,add_s,rtn,el0,el1,zab Ia,zab Ib,zab Fn]
  ·have hpr : Ex.print (.mk 9 o v t nm s g d a) = Ex.zf2 d (Ex.prints a) := by rw [Ex.print];rfl
   rw [hpr] at hl ⊢
   have hp : PrR a := fun x hx => ih x hx (by have := zmz (d := d) hx;omega)
   cases d with
   | false =>
    simp at hle
    have h0 : ¬ (a.length : Int) < 0 := by omega
    have F := zlt a (by omega) hp _ hl a.length 0 (Ex.wCase ++ [32]) (by omega) rfl (by omega) (by rw [Ex.zf2];simp)
    simp only [Ex.wCase,Int.natCast_zero,List.cons_append,List.nil_append] at F
    simp (disch := first | omega | (simp only [List.length_append,List.length_cons,List.length_nil];omega) | rfl | fail) [-Int.natCast_add,zam,zbT,mk_0,mk_9,zb6,zab hle,h0]
    exact F
   | true =>
    simp at hle
    obtain ⟨x,r,rfl⟩ : ∃ x r,a = x :: r := by
     cases a with
     | nil => simp at ha
     | cons x r => exact ⟨x,r,rfl⟩
    have h0 : ¬ ((r.length + 1 : Nat) : Int) < 1 := by omega
    have hx := hp x (by simp)
    have hcx := zmz (d := true) (l := x :: r) (x := x) (by simp)
    have sl := zgV 11 encE (x :: r) 1 (fun e => zdr e) (by simp)
    simp only [Int.natCast_one,List.map_cons,List.drop_succ_cons,List.drop_zero] at sl
    have el0 : elV 11 (.list ((x :: r).map encE)) (.int .i64 0) = some (encE x) := by have := zbt (x :: r) 0 .i64;simpa using this
    simp only [List.map_cons] at el0
    have F := zlt r (by simp at hal;omega) (fun z hz => hp z (by simp [hz])) _ hl r.length 0 (Ex.wCase ++ [32] ++ Ex.print x ++ [32]) (by omega) rfl (by omega) (by rw [Ex.zf2,Ex.prints];simp [Ex.kid])
    simp only [Ex.wCase,Int.natCast_zero,List.cons_append,List.nil_append,List.append_assoc] at F
    generalize Ex.zf2 true (Ex.prints (x :: r)) = Z at *
    generalize Ex.print x = X at *
    simp (disch := first | omega | (simp only [List.length_append,List.length_cons,List.length_nil];omega) | rfl | fail) [-Int.natCast_add,zam,zbT,mk_0,mk_9,zb6,zab hle,h0,el0,zbg,zab hx,add_s,sl]
    exact F
  ·have hpr : Ex.print (.mk 10 o v t nm s g d a) = o ++ [40] ++ Ex.commas (Ex.prints a) ++ [41] := by rw [Ex.print,Ex.pr];subst hd;simp [Ex.E.kind,Ex.E.dist,Ex.E.op]
   subst hd
   rw [hpr] at hl ⊢
   simp only [List.length_append,List.length_cons,List.length_nil] at hl
   simp at hle
   have h0 : ¬ (a.length : Int) < 0 := by omega
   have Fl := zjE a (by omega) (fun z hz => ih z hz (by have := zeh hz;omega)) (by omega)
   generalize Ex.commas (Ex.prints a) = W at *
   simp (disch := first | omega | (simp only [List.length_append,List.length_cons,List.length_nil];omega) | rfl | fail) [-Int.natCast_add,zam,mk_0,mk_1,mk_8,mk_9,zb6,zab hle,zbg,add_s,rtn,zbm,h0,zab Fl]
  ·obtain ⟨x,rfl⟩ := List.length_eq_one_iff.1 ha
   have hpr : Ex.print (.mk 11 o v t nm s g d [x]) = if d then o ++ [40] ++ Ex.wDistinct ++ [32] ++ Ex.print x ++ [41] else o ++ [40] ++ Ex.print x ++ [41] := by rw [Ex.print,Ex.prints,Ex.prints,Ex.pr];cases d <;> simp [Ex.E.kind,Ex.E.dist,Ex.E.op,Ex.commas]
   rw [hpr] at hl ⊢
   have hl2 : (Ex.print x).length + o.length ≤ 100000000 := by
    cases d <;> simp at hl <;> omega
   have hc1 : Ex.commas (Ex.prints [x]) = Ex.print x := by rw [Ex.prints,Ex.prints,Ex.commas]
   have Fl := zjE [x] (by simp) (fun z hz => ih z hz (by obtain rfl := List.mem_singleton.1 hz;omega)) (by rw [hc1];omega)
   rw [hc1] at Fl
   simp only [List.map_cons,List.map_nil] at Fl
   simp at hle
   clear hl hc1
   generalize Ex.print x = X at *
   cases d <;> simp (disch := first | omega | (simp only [List.length_append,List.length_cons,List.length_nil];omega) | rfl | fail) [-Int.natCast_add,zam,mk_0,mk_1,mk_8,mk_9,zb6,zab hle,zbg,add_s,rtn,zbm,zab Fl,Ex.wDistinct]
  ·obtain rfl : a = [] := List.eq_nil_of_length_eq_zero (by first | exact ha | exact ha.1)
   have hpr : Ex.print (.mk 11 o v t nm s g d []) = o ++ [40,42,41] := by rw [Ex.print,Ex.prints,Ex.pr];simp [Ex.E.kind,Ex.E.op]
   rw [hpr] at hl ⊢
   simp only [List.length_append,List.length_cons,List.length_nil] at hl
   simp at hle
   simp (disch := first | omega | (simp only [List.length_append,List.length_cons,List.length_nil];omega) | rfl | fail) [-Int.natCast_add,zam,mk_0,mk_1,mk_8,mk_9,zb6,zab hle,zbg,add_s,rtn,zbm]
  ·obtain ⟨x,rfl⟩ := List.length_eq_one_iff.1 ha
   have hpr : Ex.print (.mk 12 o v t nm s g d [x]) = Ex.wCast ++ [40] ++ Ex.print x ++ [32] ++ Ex.wAs ++ [32] ++ o ++ [41] := by rw [Ex.print,Ex.prints,Ex.prints,Ex.pr];simp [Ex.E.kind,Ex.E.op,Ex.kid]
   rw [hpr] at hl ⊢
   simp only [List.length_append,List.length_cons,List.length_nil] at hl
   simp at hle
   have el0 : elV 11 (.list ([x].map encE)) (.int .i64 0) = some (encE x) := by have := zbt [x] 0 .i64;simpa using this
   simp only [List.map_cons,List.map_nil] at el0
   have Ip := ih x (by simp) (by omega)
   generalize Ex.print x = T at *
   simp (disch := first | omega | (simp only [List.length_append,List.length_cons,List.length_nil];omega) | rfl | fail) [-Int.natCast_add,zam,mk_0,mk_1,mk_8,mk_9,zb6,zab hle,zbg,add_s,rtn,el0,zab Ip,Ex.wCast,Ex.wAs]
end Go.Proofs.YtakegkongmnekaaGreatDoor
namespace Go.Proofs.YtakegkongmnekaaGreatDoor
open Go.RowKit
open Vm
variable [Gl]
theorem zpS : pr.ev 6 [] [] = some (.ret (.bool true),[]) := pr.ev_phi 60 (by kernel_rfl)
end Go.Proofs.YtakegkongmnekaaGreatDoor
namespace Go.Proofs.YtakegkongmnekaaGreatDoor
open Go.RowKit
open Vm
variable [Gl]
theorem zr6 {s : List UInt8} (hs : s.length ≤ 1000000) : pr.ev 47 [.str s] [] = some (.ret (.bool (Ex.nmE s)),[]) := by
 refine pr.of rfl rfl rfl (ziu _ _ _ _) ?_
 unfold Ex.nmE
 cases h : Lx.zfC s <;> simp [zfd,zab (ev_rName hs),zab (ev_rWord hs),h,rtn]
theorem r_May (v : Ex.V) : pr.ev 46 [.agg [.int .i64 v.1,.int .i64 v.2.1,.str v.2.2]] [] = some (.ret (.bool (Ex.mayV v)),[]) := by
 obtain ⟨a,b,c⟩ := v
 refine pr.of rfl rfl rfl (zjq _ _ _ _) ?_
 unfold Ex.mayV
 by_cases h0 : a = 0
 ·by_cases hb : b = 0
  ·by_cases hc : c = []
   ·simp [zau,ckA_agg,h0,hb,hc,rtn]
   ·simp [zau,ckA_agg,h0,hb,hc,rtn]
  ·simp [zau,ckA_agg,h0,hb,rtn]
 by_cases h1 : a = 1
 ·by_cases hc : c = []
  ·simp [zau,ckA_agg,h1,hc,rtn]
  ·simp [zau,ckA_agg,h1,hc,rtn]
 by_cases hb : b = 0
 ·by_cases hl : c.length ≤ 4096
  ·by_cases h2 : a = 2
   ·simp [zau,zax,ckA_agg,h2,hb,hl,rtn,show ((c.length : Int) ≤ 4096) from by omega]
   ·by_cases h3 : a = 3
    ·simp [zau,zax,ckA_agg,h3,hb,hl,rtn,show ((c.length : Int) ≤ 4096) from by omega]
    ·simp [zau,zax,ckA_agg,h0,h1,h2,h3,rtn]
  ·by_cases h2 : a = 2
   ·simp [zau,zax,ckA_agg,h2,hb,hl,rtn,show ¬ ((c.length : Int) ≤ 4096) from by omega]
   ·by_cases h3 : a = 3
    ·simp [zau,zax,ckA_agg,h3,hb,hl,rtn,show ¬ ((c.length : Int) ≤ 4096) from by omega]
    ·simp [zau,zax,ckA_agg,h0,h1,h2,h3,rtn]
 ·by_cases h2 : a = 2
  ·simp [zau,zax,ckA_agg,h2,hb,rtn]
  ·by_cases h3 : a = 3
   ·simp [zau,zax,ckA_agg,h3,hb,rtn]
   ·simp [zau,zax,ckA_agg,h0,h1,h2,h3,rtn]
end Go.Proofs.YtakegkongmnekaaGreatDoor
namespace Go.Proofs.YtakegkongmnekaaGreatDoor
open Go.RowKit
open Vm
variable [Gl]
inductive So : Ex.E → Prop
 | mk {k : Int} {o : Ex.S} {v : Ex.V} {t n : Ex.S} {s : Int} {g d : Bool} {a : List Ex.E} : o.length ≤ 1000000 → (∀ x ∈ a,So x) → So (.mk k o v t n s g d a)
theorem So.o {e : Ex.E} (h : So e) : e.op.length ≤ 1000000 := by cases h;assumption
theorem So.a {e : Ex.E} (h : So e) : ∀ x ∈ e.args,So x := by cases h;assumption
def OwnR : Prop := ∀ e : Ex.E,Ex.count e ≤ 900000 → Ex.Sh e → e.op.length ≤ 1000000 → pr.ev 25 [encE e] [] = some (.ret (.bool (Ex.own e)),[])
theorem zjz (e : Ex.E) (a : List Ex.E) (he : cell (encE e) 10 = .list (a.map encE)) (ha : a.length ≤ 900000) (h : ∀ x ∈ a,pr.ev 11 [encE x] [] = some (.ret (.bool (Ex.right x)),[])) : ∀ (n i : Nat),i + n = a.length →
  lup Out (zbk pr.ev lup) [.int .i64 (i : Nat),encE e] = some (.ret (.bool (Ex.rights (a.drop i))),[])
 | 0,i,hi => by
  have h1 : ¬ i < a.length := by omega
  have h2 : a.drop i = [] := List.drop_of_length_le (by omega)
  rw [zaX]
  simp [-Int.natCast_add,zbk,he,h1,h2,Ex.rights,rtn]
 | n + 1,i,hi => by
  have h1 : i < a.length := by omega
  have h2 : a.drop i = a[i] :: a.drop (i + 1) := List.drop_eq_getElem_cons h1
  have ih := zjz e a he ha h n (i + 1) (by omega)
  have hx := h _ (List.getElem_mem h1)
  rw [zaX,h2,Ex.rights]
  cases hs : Ex.right a[i]
  ·rw [hs] at hx
   simp [-Int.natCast_add,zbk,he,h1,zbt,zbg,zab hx,rtn]
  ·rw [hs] at hx
   simp [-Int.natCast_add,zbk,he,h1,zbt,zbg,zab hx,zcP (show i ≤ 1000000 by omega),ih]
theorem zr7 (ho : OwnR) : ∀ (n : Nat) (e : Ex.E),Ex.deep e ≤ n → Ex.count e ≤ 900000 → Ex.Sh e → So e → pr.ev 11 [encE e] [] = some (.ret (.bool (Ex.right e)),[])
 | 0,.mk k o v t nm s g d a,h,_,_,_ => by rw [zbL] at h;omega
 | n + 1,.mk k o v t nm s g d a,h,hc,hS,hO => by
  have hown := ho _ hc hS hO.o
  rw [zbL] at h
  rw [zcY] at hc
  have hal := zbR a
  have ih : ∀ x ∈ a,pr.ev 11 [encE x] [] = some (.ret (.bool (Ex.right x)),[]) := fun x hx => zr7 ho n x (by have := zb1 hx;omega) (by have := zbQ hx;omega) (hS.a x hx) (hO.a x hx)
  have hl := zjz (.mk k o v t nm s g d a) a (zho ..) (by omega) ih a.length 0 (by omega)
  simp only [List.drop_zero] at hl
  refine pr.of rfl (by simp only [List.map,(zbA _).rd];rfl) rfl (zhO _ _ _ _) ?_
  rw [Ex.right]
  cases hq : Ex.own (.mk k o v t nm s g d a)
  ·rw [hq] at hown
   simp [-Int.natCast_add,zdg,zab hown,rtn]
  ·rw [hq] at hown
   simp [-Int.natCast_add,zdg,zab hown]
   exact hl
end Go.Proofs.YtakegkongmnekaaGreatDoor
namespace Go.Proofs.YtakegkongmnekaaGreatDoor
open Go.RowKit
open Vm
variable [Gl]
def eqW (k : Int) (o : Ex.S) (v : Ex.V) (t m : Ex.S) (s : Int) (g d : Bool) (k' : Int) (o' : Ex.S) (v' : Ex.V) (t' m' : Ex.S) (s' : Int) (g' d' : Bool) : Bool :=
 k == k' && (o == o' && (v == v' && (s == s' && (g == g' && (d == d' && (t == t' && m == m'))))))
theorem eq_nil (k : Int) (o : Ex.S) (v : Ex.V) (t m : Ex.S) (s : Int) (g d : Bool) (k' : Int) (o' : Ex.S) (v' : Ex.V) (t' m' : Ex.S) (s' : Int) (g' d' : Bool) (ht : t.length ≤ 1000000) (hm : m.length ≤ 1000000) (ht' : t'.length ≤ 1000000) (hm' : m'.length ≤ 1000000) :
  pr.ev 9 [encE (.mk k o v t m s g d []),encE (.mk k' o' v' t' m' s' g' d' [])] [] = some (.ret (.bool (eqW k o v t m s g d k' o' v' t' m' s' g' d')),[]) := by
 rw [zox 1 _ _ (by rw [Ex.deep,Ex.deeps];exact Nat.le_refl _) (by rw [zcY,Ex.counts];omega) (by rw [zcY,Ex.counts];omega) (Ex.Sh.mk (e := .mk k o v t m s g d []) ht hm (fun x hx => by cases hx)) (Ex.Sh.mk (e := .mk k' o' v' t' m' s' g' d' []) ht' hm' (fun x hx => by cases hx))]
 congr 4
 rw [Ex.equal,Ex.same,Ex.sames,Ex.equals,eqW]
 by_cases h1 : t = t'
 ·by_cases h2 : m = m'
  ·subst h1 h2
   simp
  ·rw [show (m == m') = false by simpa using h2];simp
 ·rw [show (t == t') = false by simpa using h1];simp
theorem zcD (b : Bool) (k : Int) (o : Ex.S) (v1 v2 : Int) (v3 : Ex.S) (t m : Ex.S) (s : Int) (g d : Bool) (a : List Ex.E) (k' : Int) (o' : Ex.S) (va vb : Int) (vc : Ex.S) (t' m' : Ex.S) (s' : Int) (g' d' : Bool) (ht : t.length ≤ 1000000) (hm : m.length ≤ 1000000) (ht' : t'.length ≤ 1000000) (hm' : m'.length ≤ 1000000) :
  zae pr.ev lup (.bool b) (.agg [.int .i64 k,.str o,.int .i64 v1,.int .i64 v2,.str v3,.str t,.str m,.int .i64 s,.bool g,.bool d,.list (a.map encE)]) (.agg [.int .i64 k',.str o',.int .i64 va,.int .i64 vb,.str vc,.str t',.str m',.int .i64 s',.bool g',.bool d',.nils]) =
   some (.ret (.bool (b && eqW k o (v1,v2,v3) t m s g d k' o' (va,vb,vc) t' m' s' g' d')),[]) := by
 have h := eq_nil k o (v1,v2,v3) t m s g d k' o' (va,vb,vc) t' m' s' g' d' ht hm ht' hm'
 rw [enc_mk,enc_mk] at h
 cases b
 ·simp [zae,rtn]
 ·simp only [List.map_nil] at h
  simp [zae,zab h,rtn]
theorem own_ok : OwnR := by
 intro e hc hS hO
 cases e with
 | mk k o v t m s g d a =>
 obtain ⟨va,vb,vc⟩ := v
 have ht : t.length ≤ 1000000 := hS.t
 have hm : m.length ≤ 1000000 := hS.n
 replace hO : o.length ≤ 1000000 := hO
 refine pr.of rfl (by simp only [List.map,(zbA _).rd];rfl) rfl (zjo _ _ _ _) ?_
 have h0 : ([] : Ex.S).length ≤ 1000000 := Nat.zero_le _
 rw [show Ex.own (.mk k o (va,vb,vc) t m s g d a) = Ex.ownF k o (va,vb,vc) t m g d a.length from rfl,enc_mk]
 unfold Ex.ownF
 by_cases k1 : k = 1
 ·subst k1
  have h1 := r_May (va,vb,vc)
  by_cases hn : a.length = 0
  ·cases hmv : Ex.mayV (va,vb,vc)
   ·rw [hmv] at h1
    simp [-Int.natCast_add,zaf,zac,ckA_agg,hn,zcD,ht,hm,zab h1,hmv]
   ·rw [hmv] at h1
    by_cases hv1 : va = 1
    ·subst hv1
     by_cases hv2 : vb = -9223372036854775808
     ·subst hv2
      simp [-Int.natCast_add,zaf,zac,ckA_agg,hn,zcD,ht,hm,zab h1,hmv,eqW,Ex.lowI]
     ·have hb2 : (vb == -9223372036854775808) = false := by simpa using hv2
      simp [-Int.natCast_add,zaf,zac,ckA_agg,hn,zcD,ht,hm,zab h1,hmv,hv2,eqW,Ex.lowI]
      simp [hb2,Ex.v0,Bool.and_assoc,Bool.and_comm,Bool.and_left_comm]
    ·simp [-Int.natCast_add,zaf,zac,ckA_agg,hn,zcD,ht,hm,zab h1,hmv,hv1,eqW,Ex.lowI]
     simp [Ex.v0,Bool.and_assoc,Bool.and_comm,Bool.and_left_comm]
  ·simp [-Int.natCast_add,zaf,zac,ckA_agg,hn,zcD,ht,hm]
 by_cases k2 : k = 2
 ·subst k2
  have h1 := zr6 hm
  have h2 := zr6 ht
  by_cases hn : a.length = 0
  ·cases hmv : Ex.nmE m
   ·rw [hmv] at h1
    simp [-Int.natCast_add,zaf,zac,ckA_agg,hn,zcD,ht,hm,zab h1,hmv]
   ·rw [hmv] at h1
    by_cases hv1 : t = []
    ·simp [-Int.natCast_add,zaf,zac,ckA_agg,hn,zcD,ht,hm,zab h1,hmv,hv1,eqW]
     simp [Ex.v0,Bool.and_assoc,Bool.and_comm,Bool.and_left_comm]
    ·have hv2 : List.isEmpty t = false := by simpa using hv1
     simp [-Int.natCast_add,zaf,zac,ckA_agg,hn,zcD,ht,hm,zab h1,zab h2,hmv,hv1,eqW]
     simp [Ex.v0,Bool.and_assoc,Bool.and_comm,Bool.and_left_comm,hv2]
  ·simp [-Int.natCast_add,zaf,zac,ckA_agg,hn,zcD,ht,hm]
 by_cases k3 : k = 3
 ·subst k3
  have h1 := zow o Ex.uns (by decide)
  generalize Ex.uns.contains o = B at h1 ⊢
  simp only [Ex.uns,Ex.zb5,Ex.zes,Ex.wNot,List.map] at h1
  by_cases hn : a.length = 1
  ·simp [-Int.natCast_add,zaf,zac,ckA_agg,hn,zcD,ht,hm,zab h1,eqW]
   simp [Ex.v0,Bool.and_assoc,Bool.and_comm,Bool.and_left_comm]
  ·have hni : ¬ (a.length : Int) = 1 := by omega
   simp [-Int.natCast_add,zaf,zac,ckA_agg,hn,zcD,ht,hm,hni]
 by_cases k4 : k = 4
 ·subst k4
  have h1 := zow o Ex.bins (by decide)
  generalize Ex.bins.contains o = B at h1 ⊢
  simp only [Ex.bins,Ex.zb5,Ex.zes,Ex.zdO,Ex.wAnd,Ex.wOr,List.map] at h1
  by_cases hn : a.length = 2
  ·simp [-Int.natCast_add,zaf,zac,ckA_agg,hn,zcD,ht,hm,zab h1,eqW]
   simp [Ex.v0,Bool.and_assoc,Bool.and_comm,Bool.and_left_comm]
  ·have hni : ¬ (a.length : Int) = 2 := by omega
   simp [-Int.natCast_add,zaf,zac,ckA_agg,hn,zcD,ht,hm,hni]
 by_cases k5 : k = 5
 ·subst k5
  by_cases hn : a.length = 2
  ·simp [-Int.natCast_add,zaf,zac,ckA_agg,hn,zcD,ht,hm,eqW]
   simp [Ex.v0,Bool.and_assoc,Bool.and_comm,Bool.and_left_comm]
  ·have hni : ¬ (a.length : Int) = 2 := by omega
   simp [-Int.natCast_add,zaf,zac,ckA_agg,hn,zcD,ht,hm,hni,eqW]
 by_cases k8 : k = 8
 ·subst k8
  by_cases hn : a.length = 2
  ·simp [-Int.natCast_add,zaf,zac,ckA_agg,hn,zcD,ht,hm,eqW]
   simp [Ex.v0,Bool.and_assoc,Bool.and_comm,Bool.and_left_comm]
  ·have hni : ¬ (a.length : Int) = 2 := by omega
   simp [-Int.natCast_add,zaf,zac,ckA_agg,hn,zcD,ht,hm,hni,eqW]
 by_cases k6 : k = 6
 ·subst k6
  by_cases hn : 2 ≤ a.length
  ·have hni : (2 : Int) ≤ a.length := by omega
   simp [-Int.natCast_add,zaf,zac,ckA_agg,hn,zcD,ht,hm,hni,eqW]
   simp [Ex.v0,Bool.and_assoc,Bool.and_comm,Bool.and_left_comm]
  ·have hni : ¬ (2 : Int) ≤ a.length := by omega
   simp [-Int.natCast_add,zaf,zac,ckA_agg,hn,zcD,ht,hm,hni,eqW]
 by_cases k7 : k = 7
 ·subst k7
  by_cases hn : a.length = 3
  ·simp [-Int.natCast_add,zaf,zac,ckA_agg,hn,zcD,ht,hm,eqW]
   simp [Ex.v0,Bool.and_assoc,Bool.and_comm,Bool.and_left_comm]
  ·have hni : ¬ (a.length : Int) = 3 := by omega
   simp [-Int.natCast_add,zaf,zac,ckA_agg,hn,zcD,ht,hm,hni,eqW]
 by_cases k9 : k = 9
 ·subst k9
  by_cases hn : 2 ≤ a.length
  ·have hni : (2 : Int) ≤ a.length := by omega
   cases d
   ·simp [-Int.natCast_add,zaf,zac,ckA_agg,hn,zcD,ht,hm,hni,eqW]
    simp [Ex.v0,Bool.and_assoc,Bool.and_comm,Bool.and_left_comm]
   ·by_cases hn3 : 3 ≤ a.length
    ·have hnj : (3 : Int) ≤ a.length := by omega
     simp [-Int.natCast_add,zaf,zac,ckA_agg,hn,zcD,ht,hm,hni,hnj,hn3,eqW]
     simp [Ex.v0,Bool.and_assoc,Bool.and_comm,Bool.and_left_comm]
    ·have hnj : ¬ (3 : Int) ≤ a.length := by omega
     simp [-Int.natCast_add,zaf,zac,ckA_agg,hn,zcD,ht,hm,hni,hnj,hn3,eqW]
  ·have hni : ¬ (2 : Int) ≤ a.length := by omega
   simp [-Int.natCast_add,zaf,zac,ckA_agg,hn,zcD,ht,hm,hni,eqW]
 by_cases k10 : k = 10
 ·subst k10
  have h1 := zr6 hO
  have h2 := zaZ hO
  have h3 := zjF o
  have hn := k1
  cases hmv : Ex.nmE o
  ·rw [hmv] at h1
   simp [-Int.natCast_add,zaf,zac,ckA_agg,hn,zcD,ht,hm,zab h1,hmv,eqW]
  ·rw [hmv] at h1
   by_cases hf : Lx.fold o = o
   ·rw [hf] at h2
    simp [-Int.natCast_add,zaf,zac,ckA_agg,hn,zcD,ht,hm,zab h1,zab h2,zab h3,hmv,hf,eqW]
    simp [Ex.v0,Bool.and_assoc,Bool.and_comm,Bool.and_left_comm]
   ·simp [-Int.natCast_add,zaf,zac,ckA_agg,hn,zcD,ht,hm,zab h1,zab h2,zab h3,hmv,hf,eqW]
 by_cases k11 : k = 11
 ·subst k11
  have h3 := zjF o
  cases hag : Ex.aggs.contains o
  ·rw [hag] at h3
   have hn := k1
   simp [-Int.natCast_add,zaf,zac,ckA_agg,hn,zcD,ht,hm,zab h3,eqW, -List.contains_eq_mem,hag]
  ·rw [hag] at h3
   by_cases hn : a.length = 1
   ·simp [-Int.natCast_add,zaf,zac,ckA_agg,hn,zcD,ht,hm,zab h3,eqW, -List.contains_eq_mem,hag]
    simp [Ex.v0,Bool.and_assoc,Bool.and_comm,Bool.and_left_comm]
   ·have hni : ¬ (a.length : Int) = 1 := by omega
    by_cases hn0 : a.length = 0
    ·by_cases ho : o = [99,111,117,110,116]
     ·subst ho
      simp [-Int.natCast_add,zaf,zac,ckA_agg,hn,zcD,ht,hm,zab h3,eqW, -List.contains_eq_mem,hag,hni,hn0,Ex.wCount]
      simp [Ex.v0,Bool.and_assoc,Bool.and_comm,Bool.and_left_comm]
     ·simp [-Int.natCast_add,zaf,zac,ckA_agg,hn,zcD,ht,hm,zab h3,eqW, -List.contains_eq_mem,hag,hni,hn0,ho,Ex.wCount]
    ·have hnk : ¬ (a.length : Int) = 0 := by omega
     simp [-Int.natCast_add,zaf,zac,ckA_agg,hn,zcD,ht,hm,zab h3,eqW, -List.contains_eq_mem,hag,hni,hnk,hn0]
 by_cases k12 : k = 12
 ·subst k12
  have h1 := zow o Ex.zfG (by decide)
  generalize Ex.zfG.contains o = B at h1 ⊢
  simp only [Ex.zfG,List.map] at h1
  by_cases hn : a.length = 1
  ·simp [-Int.natCast_add,zaf,zac,ckA_agg,hn,zcD,ht,hm,zab h1,eqW]
   simp [Ex.v0,Bool.and_assoc,Bool.and_comm,Bool.and_left_comm]
  ·have hni : ¬ (a.length : Int) = 1 := by omega
   simp [-Int.natCast_add,zaf,zac,ckA_agg,hn,zcD,ht,hm,hni]
 ·have hn := k1
  simp [-Int.natCast_add,zaf,zac,ckA_agg,hn,zcD,ht,hm,k1,k2,k3,k4,k5,k6,k7,k8,k9,k10,k11,k12]
end Go.Proofs.YtakegkongmnekaaGreatDoor
namespace Go.Proofs.YtakegkongmnekaaGreatDoor
open Go.RowKit
open Vm Go.ChangeShapes Go.WideShapes Go.ChangeAt Go.WideElems
def zd5 (P : Program) (t : TypeId) : Bool := match P.underlying t with | some (.struct _) => true | _ => false
def layOk (P : Program) (z : Nat) : List Field → Nat → Bool
 | [],o => o == z
 | f :: r,o => f.offset == o && layOk P z r (o + P.cellsOf f.type)
def tyOk (P : Program) (TS : List TypeId) (t : TypeId) : Bool := match P.underlying t with
 | some .bool => P.cellsOf t == 1
 | some (.int _) => P.cellsOf t == 1
 | some .string => P.cellsOf t == 1
 | some (.slice e) => TS.contains e && decide (0 < P.cellsOf e) && P.cellsOf t == 1
 | some (.struct fs) => fs.toList.all (fun f => TS.contains f.type) && layOk P (P.cellsOf t) fs.toList 0
 | _ => false
def ztF (P : Program) (TS : List TypeId) : Bool := TS.all (tyOk P TS)
def zdS (P : Program) : Nat → TypeId → List Vm.V → Prop
 | 0,_,_ => False
 | n + 1,t,us => match P.underlying t with
  | some .bool => ∃ b,us = [.bool b]
  | some (.int k) => ∃ i,us = [.int k i] ∧ k.min ≤ i ∧ i ≤ k.max
  | some .string => ∃ s,us = [.str s] ∧ s.length ≤ maxLen
  | some (.slice e) => ∃ xs,us = [.list xs] ∧ xs.length ≤ maxLen ∧ ∀ x ∈ xs,x.isAgg = zd5 P e ∧ x.size = P.cellsOf e ∧ zdS P n e x.cells
  | some (.struct fs) => us.length = P.cellsOf t ∧ ∀ (i : Nat) (f : Field),fs[i]? = some f → zdS P n f.type ((us.drop f.offset).take (P.cellsOf f.type))
  | _ => False
mutual
def vsz : Vm.V → Nat
 | .str s => s.length + 1
 | .list l => vszs l + 1
 | .agg l => vszs l + 1
 | _ => 1
termination_by structural x => x
def vszs : List Vm.V → Nat
 | [] => 0
 | x :: r => vsz x + vszs r
termination_by structural x => x
end
theorem zn5 (a b : List Vm.V) : vszs (a ++ b) = vszs a + vszs b := by
 induction a with
 | nil => simp [vszs]
 | cons x r ih => simp only [List.cons_append,vszs,ih];omega
theorem vsz_pos (x : Vm.V) : 1 ≤ vsz x := by cases x <;> simp [vsz]
theorem vszs_len (l : List Vm.V) : l.length ≤ vszs l := by
 induction l with
 | nil => simp
 | cons x r ih => have := vsz_pos x;simp only [vszs,List.length_cons];omega
theorem vszs_mem {l : List Vm.V} {x : Vm.V} (h : x ∈ l) : vsz x ≤ vszs l := by
 induction l with
 | nil => cases h
 | cons y r ih =>
  simp only [vszs]
  rcases List.mem_cons.1 h with rfl | h
  ·omega
  ·have := ih h;omega
abbrev noA : Nat → Nat → Prop := fun _ _ => False
theorem spot_no {w : World} {a : Addr} {v : Value} (h : w.cell? a = some v) : ∃ b o,a = ⟨b,o,none⟩ := by
 obtain ⟨b,o,sp⟩ := a
 cases sp with
 | none => exact ⟨b,o,rfl⟩
 | some s =>
  exfalso
  unfold World.cell? at h
  split at h
  ·simp at h
  ·cases h
theorem lay_le {P : Program} {z : Nat} : ∀ (l : List Field) (o : Nat),layOk P z l o = true → o ≤ z := by
 intro l
 induction l with
 | nil => intro o h;simp only [layOk,beq_iff_eq] at h;omega
 | cons g l ih =>
  intro o h
  simp only [layOk,Bool.and_eq_true,beq_iff_eq] at h
  have := ih _ h.2
  omega
theorem lay_ge {P : Program} {z : Nat} : ∀ (l : List Field) (o i : Nat) (f : Field),layOk P z l o = true → l[i]? = some f → o ≤ f.offset := by
 intro l
 induction l with
 | nil => intro o i f _ h;simp at h
 | cons g l ih =>
  intro o i f h hi
  simp only [layOk,Bool.and_eq_true,beq_iff_eq] at h
  cases i with
  | zero => simp at hi;subst hi;omega
  | succ i => have := ih _ i f h.2 (by simpa using hi);omega
theorem znF {P : Program} {z : Nat} {H : Type} {w : World} {Q : Field → List Vm.V → Prop} (cs : List Value) (hz : cs.length = z) : ∀ (fs : List Field) (o : Nat) (xs : List (DataW H × List MemPlace)),layOk P z fs o = true → xs.length = fs.length → o ≤ z →
  (∀ (i : Nat) (f : Field),fs[i]? = some f → ∃ us x,xs[i]? = some x ∧ RepL w noA us ((cs.drop f.offset).take (P.cellsOf f.type)) ∧ us.all V.one = true ∧ vszs us ≤ Rows.uptoBulk x.1 ∧ Q f us) →
  ∃ us,RepL w noA us (cs.drop o) ∧ us.all V.one = true ∧ vszs us ≤ Rows.uptoBulkAll (xs.map (·.1)) ∧ ∀ (i : Nat) (f : Field),fs[i]? = some f → Q f ((us.drop (f.offset - o)).take (P.cellsOf f.type))
 | [],o,xs,hl,hx,ho,hf => by
  simp only [layOk,beq_iff_eq] at hl
  obtain rfl : xs = [] := List.eq_nil_of_length_eq_zero hx
  exact ⟨[],by rw [List.drop_of_length_le (by omega)];exact .nil,rfl,by simp [vszs],fun i f h => by simp at h⟩
 | f :: r,o,[],hl,hx,ho,hf => by simp at hx
 | f :: r,o,x :: xs,hl,hx,ho,hf => by
  simp only [layOk,Bool.and_eq_true,beq_iff_eq] at hl
  obtain ⟨rfl,hl⟩ := hl
  obtain ⟨us,x',hx',h1,h2,h3,h4⟩ := hf 0 f rfl
  simp only [List.getElem?_cons_zero,Option.some.injEq] at hx'
  subst hx'
  have hle : f.offset + P.cellsOf f.type ≤ z := lay_le _ _ hl
  have hlen : us.length = P.cellsOf f.type := by
   rw [zbK h1]
   simp only [List.length_take,List.length_drop]
   omega
  obtain ⟨us',g1,g2,g3,g4⟩ := znF cs hz r _ xs hl (by simpa using hx) hle (fun i g hg => by
   obtain ⟨us,y,hy,h⟩ := hf (i + 1) g (by simpa using hg)
   exact ⟨us,y,by simpa using hy,h⟩)
  refine ⟨us ++ us', ?_,by simp [h2,g2], ?_,fun i g hg => ?_⟩
  ·have : cs.drop f.offset = (cs.drop f.offset).take (P.cellsOf f.type) ++ cs.drop (f.offset + P.cellsOf f.type) := by
    rw [← List.drop_drop,List.take_append_drop]
   rw [this]
   exact zfs h1 g1
  ·rw [zn5,List.map_cons,Rows.uptoBulkAll];omega
  ·cases i with
   | zero =>
    simp only [List.getElem?_cons_zero,Option.some.injEq] at hg
    subst hg
    rw [Nat.sub_self,List.drop_zero,← hlen,List.take_left']
    ·exact h4
    ·rfl
   | succ i =>
    have hg' : r[i]? = some g := by simpa using hg
    have hge := lay_ge _ _ i g hl hg'
    have h5 := g4 i g hg'
    rw [show g.offset - f.offset = us.length + (g.offset - (f.offset + P.cellsOf f.type)) by omega,← List.drop_drop,List.drop_left']
    ·exact h5
    ·rfl
theorem zk5 {P : Program} {H : Type} {w : World} {base z n : Nat} {e : TypeId} {a : Addr} {T : List Value → Option (DataW H × List MemPlace)} (hz : z = P.cellsOf e) (h1 : zd5 P e = false → z = 1)
  (ih : ∀ cs x,T cs = some x → ∃ us,RepL w noA us cs ∧ us.all V.one = true ∧ vszs us + (if zd5 P e = true then 1 else 0) ≤ Rows.uptoBulk x.1 ∧ us.length = P.cellsOf e ∧ zdS P n e us) :
  ∀ (l : List (DataW H × List MemPlace)) (k : Nat),(∀ j,j < l.length → (w.cells? base (a.add ((k + j) * z)) z).bind T = l[j]?) →
  ∃ (xs : List Vm.V) (vs : List Value),xs.length = l.length ∧ RepE w noA z xs vs ∧ (∀ j u,vs[j]? = some u → w.cell? (a.add (k * z + j)) = some u) ∧ vszs xs ≤ Rows.uptoBulkAll (l.map (·.1)) ∧ ∀ x ∈ xs,x.isAgg = zd5 P e ∧ x.size = P.cellsOf e ∧ zdS P n e x.cells
 | [],k,_ => ⟨[],[],rfl,.nil _,fun j u h => by simp at h,by simp [vszs],fun x hx => by cases hx⟩
 | d :: l,k,hj => by
  obtain ⟨cs,hc,ht⟩ := Option.bind_eq_some_iff.1 ((hj 0 (by simp)).trans (List.getElem?_cons_zero))
  rw [Nat.add_zero] at hc
  obtain ⟨_,hlen,hcell⟩ := World.cells?_some hc
  obtain ⟨us,g1,g2,g3,g4,g5⟩ := ih cs d ht
  obtain ⟨xs,vs,k1,k2,k3,k4,k5⟩ := zk5 hz h1 ih l (k + 1) (fun j hj' => by
   have := hj (j + 1) (by simpa using hj')
   rw [show k + 1 + j = k + (j + 1) by omega]
   simpa using this)
  have hx : ∃ x : Vm.V,RepC w noA x cs ∧ vsz x ≤ Rows.uptoBulk d.1 ∧ x.isAgg = zd5 P e ∧ x.size = P.cellsOf e ∧ zdS P n e x.cells := by
   cases ha : zd5 P e with
   | true =>
    rw [ha,if_pos rfl] at g3
    exact ⟨.agg us,.agg us cs g2 g1,by simp only [vsz];exact g3,rfl,g4,g5⟩
   | false =>
    have hz1 := h1 ha
    match us,cs,g1,g2,g3,g4,g5 with
    | [],_,_,_,_,g4,_ => simp at g4;omega
    | _ :: _ :: _,_,_,_,_,g4,_ => simp at g4;omega
    | [u],_,.cons _ _ v vs g6 g7,g2,g3,g4,g5 =>
     cases g7
     have hone : u.one = true := by simpa using g2
     refine ⟨u,.one _ _ hone g6, ?_,zsm hone, ?_, ?_⟩
     ·simp only [vszs] at g3;omega
     ·rw [V.size,zcu hone];exact g4
     ·rw [zcu hone];exact g5
  obtain ⟨x,x1,x2,x3,x4,x5⟩ := hx
  refine ⟨x :: xs,cs ++ vs,by simp [k1],.cons _ _ _ _ _ hlen x1 k2,fun j u hu => ?_, ?_,fun y hy => ?_⟩
  ·by_cases hjz : j < z
   ·rw [List.getElem?_append_left (by omega)] at hu
    have := hcell j hjz
    rw [Addr.add_add,hu] at this
    exact this
   ·rw [List.getElem?_append_right (by omega),hlen] at hu
    have := k3 (j - z) u hu
    rw [Nat.succ_mul] at this
    rwa [show k * z + z + (j - z) = k * z + j by omega] at this
  ·simp only [vszs,List.map_cons,Rows.uptoBulkAll];omega
  ·rcases List.mem_cons.1 hy with rfl | hy
   ·exact ⟨x3,x4,x5⟩
   ·exact k5 y hy
theorem zsj {P : Program} {TS : List TypeId} (hT : ztF P TS = true) {H : Type} {enc : TypeId × Value → H} {w : World} {base : Nat} {sp : Nat → Bool} {held : Bool} : ∀ (n : Nat) (t : TypeId) (cs : List Value) (x : DataW H × List MemPlace),t ∈ TS → DataW.trod enc P w base sp held n t cs = some x →
  ∃ us,RepL w noA us cs ∧ us.all V.one = true ∧ vszs us + (if zd5 P t = true then 1 else 0) ≤ Rows.uptoBulk x.1 ∧ us.length = P.cellsOf t ∧ zdS P n t us := by
 intro n
 induction n with
 | zero => intro t cs x _ h;simp [DataW.trod] at h
 | succ n ih =>
  intro t cs x ht h
  have hk : tyOk P TS t = true := List.all_eq_true.1 hT t ht
  unfold tyOk at hk
  split at hk
  ·rename_i hu
   obtain ⟨b,rfl,rfl⟩ := DataW.trod_bool hu h
   refine ⟨[.bool b],.cons _ _ _ _ (.bool _) .nil,rfl, ?_,by rw [beq_iff_eq.1 hk];rfl, ?_⟩
   ·simp [zd5,hu,vszs,vsz,Rows.uptoBulk]
   ·simp only [zdS,hu];exact ⟨b,rfl⟩
  ·rename_i k hu
   obtain ⟨i,rfl,rfl,hw⟩ := DataW.trod_int hu h
   refine ⟨[.int k i],.cons _ _ _ _ (.int _ _) .nil,rfl, ?_,by rw [beq_iff_eq.1 hk];rfl, ?_⟩
   ·simp [zd5,hu,vszs,vsz,Rows.uptoBulk]
   ·simp only [zdS,hu]
    simp only [Lit.wf,Bool.and_eq_true,decide_eq_true_eq] at hw
    exact ⟨i,rfl,hw⟩
  ·rename_i hu
   obtain ⟨s,rfl,rfl,hw⟩ := DataW.trod_string hu h
   refine ⟨[.str (Lx.ls s)],.cons _ _ _ _ ?_ .nil,rfl, ?_,by rw [beq_iff_eq.1 hk];rfl, ?_⟩
   ·have := RepV.str (w := w) (A := noA) (Lx.ls s)
    rwa [Lx.zmC] at this
   ·simp [zd5,hu,vszs,vsz,Rows.uptoBulk,Lx.ls]
   ·simp only [zdS,hu]
    exact ⟨_,rfl,by simpa [Lx.ls] using hw⟩
  ·rename_i e hu
   simp only [Bool.and_eq_true,decide_eq_true_eq,List.contains_eq_mem,beq_iff_eq] at hk
   obtain ⟨⟨he,hz⟩,h1⟩ := hk
   rcases DataW.trod_slice hu h with ⟨rfl,rfl⟩ | ⟨a,len,cap,elems,rest,n',hn',rfl,rfl,hb,hl,hm,hlen,hel, -, -⟩
   ·refine ⟨[.list []],.cons _ _ _ _ (.nil _ _) .nil,rfl, ?_,by rw [h1];rfl, ?_⟩
    ·simp [zd5,hu,vszs,vsz,Rows.uptoBulk]
    ·simp only [zdS,hu];exact ⟨[],rfl,Nat.zero_le _,fun x hx => by cases hx⟩
   ·obtain rfl : n' = n := by omega
    have hz1 : zd5 P e = false → P.cellsOf e = 1 := fun ha => by
     have he' : tyOk P TS e = true := List.all_eq_true.1 hT e he
     unfold tyOk at he'
     unfold zd5 at ha
     split at he' <;> first | (exact beq_iff_eq.1 he') | skip
     ·simp only [Bool.and_eq_true,beq_iff_eq] at he';exact he'.2
     ·rename_i hs;rw [hs] at ha;cases ha
     ·cases he'
    obtain ⟨xs,vs,k1,k2,k3,k4,k5⟩ := zk5 (P := P) (w := w) (base := base) (e := e) (a := a) (n := n') rfl hz1 (fun cs x hx => ih e cs x he hx) elems 0 (fun j hj => by rw [Nat.zero_add];exact hel j (by omega))
    have hrep : RepV w noA (.list xs) (.slice (some a) len cap) := by
     cases xs with
     | nil =>
      simp only [List.length_nil] at k1
      obtain rfl : len = 0 := by omega
      exact .nil _ _
     | cons x xs =>
      have hvl := zc5 k2
      have hpos : 0 < vs.length := by rw [hvl];exact Nat.mul_pos (by simp) hz
      have h0 := k3 0 vs[0] (List.getElem?_eq_getElem hpos)
      rw [Nat.zero_mul,Nat.zero_add] at h0
      have hza : a.add 0 = a := by unfold Addr.add;rw [if_pos rfl]
      rw [hza] at h0
      obtain ⟨b,o,rfl⟩ := spot_no h0
      have := RepV.list (w := w) (A := noA) (x :: xs) _ b o cap vs (by simp) k2 ⟨zo1 h0,fun j u hu => ⟨?_,fun hh => hh⟩⟩ (by omega) hm
      ·rwa [show (x :: xs).length = len by omega] at this
      ·have h2 := k3 j u hu
       rw [Nat.zero_mul,Nat.zero_add] at h2
       have ha : (⟨b,o,none⟩ : Addr).add j = ⟨b,o + j,none⟩ := by
        unfold Addr.add
        by_cases hj0 : j = 0
        ·rw [if_pos hj0,hj0];rfl
        ·rw [if_neg hj0]
       rwa [ha] at h2
    refine ⟨[.list xs],.cons _ _ _ _ hrep .nil,rfl, ?_,by rw [h1];rfl, ?_⟩
    ·simp only [zd5,hu,vszs,vsz,Rows.uptoBulk]
     simp only [Bool.false_eq_true,if_false]
     omega
    ·simp only [zdS,hu]
     exact ⟨xs,rfl,by omega,k5⟩
  ·rename_i fs hu
   simp only [Bool.and_eq_true] at hk
   obtain ⟨hfs,hlay⟩ := hk
   obtain ⟨xs,m,hm,hx,hlen,hxl,hf⟩ := DataW.trod_struct hu h
   obtain rfl : m = n := by omega
   subst hx
   obtain ⟨us,g1,g2,g3,g4⟩ := znF (H := H) (w := w) (Q := fun f us => zdS P m f.type us) cs hlen fs.toList 0 xs hlay (by simpa using hxl) (Nat.zero_le _) (fun i f hf' => by
    have hf2 : fs[i]? = some f := by simpa using hf'
    have hmem : f.type ∈ TS := by
     have := List.all_eq_true.1 hfs f (List.mem_of_getElem? hf')
     simpa using this
    have h3 := hf i f hf2
    have hlt : i < xs.length := by rw [hxl];exact (Array.getElem?_eq_some_iff.1 hf2).1
    rw [List.getElem?_eq_getElem hlt] at h3
    obtain ⟨us,k1,k2,k3,k4,k5⟩ := ih f.type _ _ hmem h3
    exact ⟨us,xs[i],List.getElem?_eq_getElem hlt,k1,k2,by omega,k5⟩)
   rw [List.drop_zero] at g1
   refine ⟨us,g1,g2, ?_,by rw [zbK g1,hlen], ?_⟩
   ·simp only [zd5,hu,if_true,Rows.uptoBulk];omega
   ·simp only [zdS,hu]
    refine ⟨by rw [zbK g1,hlen],fun i f hf' => ?_⟩
    have := g4 i f (by simpa using hf')
    simpa using this
  ·cases hk
end Go.Proofs.YtakegkongmnekaaGreatDoor
namespace Go.Proofs.YtakegkongmnekaaGreatDoor
open Go.RowKit
open Vm
def I64 (n : Int) : Prop := -9223372036854775808 ≤ n ∧ n ≤ 9223372036854775807
inductive R64 : Ex.E → Prop
 | mk {k : Int} {o : Ex.S} {v : Ex.V} {t n : Ex.S} {s : Int} {g d : Bool} {a : List Ex.E} : I64 k → I64 v.1 → I64 v.2.1 → I64 s → (∀ x ∈ a,R64 x) → R64 (.mk k o v t n s g d a)
theorem zrs {n : Nat} {us : List Vm.V} (h : zdS Tryz.prog n 3 us) : ∃ i,us = [.int .i64 i] ∧ I64 i := by
 cases n with
 | zero => exact h.elim
 | succ n =>
  simp only [zdS,Tryz.underlying3] at h
  exact h
theorem ty_int64 {n : Nat} {us : List Vm.V} (h : zdS Tryz.prog n 2 us) : ∃ i,us = [.int .i64 i] ∧ I64 i := by
 cases n with
 | zero => exact h.elim
 | succ n =>
  simp only [zdS,Tryz.underlying2] at h
  exact h
theorem zrt {n : Nat} {us : List Vm.V} (h : zdS Tryz.prog n 4 us) : ∃ b,us = [.bool b] := by
 cases n with
 | zero => exact h.elim
 | succ n =>
  simp only [zdS,Tryz.underlying4] at h
  exact h
theorem zo8 {n : Nat} {us : List Vm.V} (h : zdS Tryz.prog n 9 us) : ∃ s,us = [.str s] := by
 cases n with
 | zero => exact h.elim
 | succ n =>
  simp only [zdS,Tryz.underlying9] at h
  obtain ⟨s,h,_⟩ := h
  exact ⟨s,h⟩
theorem z_int : Tryz.prog.cellsOf 3 = 1 := by kernel_rfl
theorem z_int64 : Tryz.prog.cellsOf 2 = 1 := by kernel_rfl
theorem z_bool : Tryz.prog.cellsOf 4 = 1 := by kernel_rfl
theorem zo0 : Tryz.prog.cellsOf 9 = 1 := by kernel_rfl
theorem z_val : Tryz.prog.cellsOf 24 = 3 := by kernel_rfl
theorem z_expr : Tryz.prog.cellsOf 27 = 11 := by kernel_rfl
theorem z_exprs : Tryz.prog.cellsOf 25 = 1 := by kernel_rfl
theorem ty_val {n : Nat} {us : List Vm.V} (h : zdS Tryz.prog n 24 us) : ∃ v : Ex.V,us = [.int .i64 v.1,.int .i64 v.2.1,.str v.2.2] ∧ I64 v.1 ∧ I64 v.2.1 := by
 cases n with
 | zero => exact h.elim
 | succ n =>
  simp only [zdS,Tryz.underlying24] at h
  obtain ⟨hlen,hf⟩ := h
  rw [z_val] at hlen
  match us,hlen with
  | [c0,c1,c2],_ =>
   have g0 := hf 0 _ rfl
   have g1 := hf 1 _ rfl
   have g2 := hf 2 _ rfl
   simp [z_int,z_int64,zo0] at g0 g1 g2
   obtain ⟨a,e0,w0⟩ := zrs g0
   obtain ⟨b,e1,w1⟩ := ty_int64 g1
   obtain ⟨d,e2⟩ := zo8 g2
   simp only [List.cons.injEq,and_true] at e0 e1 e2
   subst e0 e1 e2
   exact ⟨(a,b,d),rfl,w0,w1⟩
theorem ty_expr : ∀ (n : Nat) (us : List Vm.V),zdS Tryz.prog n 27 us → ∃ e : Ex.E,us = expC e ∧ R64 e := by
 intro n
 induction n using Nat.strongRecOn with
 | _ n ih =>
 intro us h
 cases n with
 | zero => exact h.elim
 | succ n =>
  simp only [zdS,Tryz.underlying27] at h
  obtain ⟨hlen,hf⟩ := h
  rw [z_expr] at hlen
  match us,hlen with
  | [c0,c1,c2,c3,c4,c5,c6,c7,c8,c9,c10],_ =>
   have g0 := hf 0 _ rfl
   have g1 := hf 1 _ rfl
   have g2 := hf 2 _ rfl
   have g3 := hf 3 _ rfl
   have g4 := hf 4 _ rfl
   have g5 := hf 5 _ rfl
   have g6 := hf 6 _ rfl
   have g7 := hf 7 _ rfl
   have g8 := hf 8 _ rfl
   simp [z_int,z_bool,zo0,z_val,z_exprs] at g0 g1 g2 g3 g4 g5 g6 g7 g8
   obtain ⟨k,e0,w0⟩ := zrs g0
   obtain ⟨o,e1⟩ := zo8 g1
   obtain ⟨v,e2,w2,w3⟩ := ty_val g2
   obtain ⟨t,e3⟩ := zo8 g3
   obtain ⟨m,e4⟩ := zo8 g4
   obtain ⟨s,e5,w5⟩ := zrs g5
   obtain ⟨g,e6⟩ := zrt g6
   obtain ⟨d,e7⟩ := zrt g7
   have hA : ∃ a : List Ex.E,c10 = .list (a.map encE) ∧ ∀ x ∈ a,R64 x := by
    cases n with
    | zero => exact g8.elim
    | succ n =>
     simp only [zdS,Tryz.underlying25] at g8
     obtain ⟨xs,e8,_,h8⟩ := g8
     simp only [List.cons.injEq,and_true] at e8
     subst e8
     have key : ∀ l : List Vm.V,(∀ x ∈ l,x ∈ xs) → ∃ a : List Ex.E,l = a.map encE ∧ ∀ x ∈ a,R64 x := by
      intro l
      induction l with
      | nil => intro _;exact ⟨[],rfl,fun x hx => by cases hx⟩
      | cons x r ihl =>
       intro hl
       obtain ⟨a,rfl,ha⟩ := ihl fun y hy => hl y (by simp [hy])
       obtain ⟨k1,k2,k3⟩ := h8 x (hl x (by simp))
       obtain ⟨e,he,hr⟩ := ih n (by omega) _ k3
       have hagg : x.isAgg = true := by rw [k1];kernel_rfl
       cases x with
       | agg cs =>
        have : cs = expC e := he
        subst this
        exact ⟨e :: a,rfl,fun y hy => by
         rcases List.mem_cons.1 hy with rfl | hy
         ·exact hr
         ·exact ha y hy⟩
       | _ => cases hagg
     obtain ⟨a,rfl,ha⟩ := key xs fun x hx => hx
     exact ⟨a,rfl,ha⟩
   obtain ⟨a,rfl,ha⟩ := hA
   simp only [List.cons.injEq,and_true] at e0 e1 e2 e3 e4 e5 e6 e7
   obtain ⟨e2a,e2b,e2c⟩ := e2
   subst e0 e1 e2a e2b e2c e3 e4 e5 e6 e7
   refine ⟨.mk k o v t m s g d a, ?_,.mk w0 w2 w3 w5 ha⟩
   rw [expC]
   rfl
mutual
theorem znQ : ∀ e : Ex.E,12 * Ex.count e ≤ vsz (encE e)
 | .mk k o v t n s g d a => by
  have h := zh8 a
  haveI : Gl := ⟨0⟩
  rw [enc_mk,zcY]
  simp only [vsz,vszs]
  omega
theorem zh8 : ∀ l : List Ex.E,12 * Ex.counts l ≤ vszs (l.map encE)
 | [] => by simp [Ex.counts]
 | e :: r => by
  have h1 := znQ e
  have h2 := zh8 r
  rw [Ex.counts,List.map_cons,vszs]
  omega
end
end Go.Proofs.YtakegkongmnekaaGreatDoor
namespace Go.Proofs.YtakegkongmnekaaGreatDoor
open Go.RowKit
open Vm
mutual
def smallE : Ex.E → Bool
 | .mk _ o v t n _ _ _ a => decide (a.length ≤ 60) && (decide (o.length + t.length + n.length ≤ 400) && (decide (v.2.2.length ≤ 100) && zgz a))
termination_by structural x => x
def zgz : List Ex.E → Bool
 | [] => true
 | e :: r => smallE e && zgz r
termination_by structural x => x
end
theorem zoc {l : List Ex.E} (h : zgz l = true) : ∀ x ∈ l,smallE x = true := by
 induction l with
 | nil => intro x hx;cases hx
 | cons a r ih =>
  rw [zgz,Bool.and_eq_true] at h
  intro x hx
  rcases List.mem_cons.1 hx with rfl | hx
  ·exact h.1
  ·exact ih h.2 x hx
theorem zpf : ∀ (n : Nat) (e : Ex.E),Ex.deep e ≤ n → smallE e = true → R64 e → Ex.Sm e
 | 0,.mk k o v t nm s g d a,h,_,_ => by rw [Ex.deep] at h;omega
 | n + 1,.mk k o v t nm s g d a,h,hs,hr => by
  haveI : Gl := ⟨0⟩
  rw [zbL] at h
  rw [smallE] at hs
  simp only [Bool.and_eq_true,decide_eq_true_eq] at hs
  cases hr with
  | mk h0 h1 h2 h3 h4 =>
   exact .mk ⟨h2.2,h2.1⟩ hs.2.1 hs.2.2.1 fun x hx => zpf n x (by have := zb1 (l := a) hx;omega) (zoc hs.2.2.2 x hx) (h4 x hx)
theorem sm_sh {e : Ex.E} (h : Ex.Sm e) : Ex.Sh e := by
 induction h with
 | mk h1 h2 h3 _ ih => exact .mk (by omega) (by omega) ih
theorem sm_qt {e : Ex.E} (h : Ex.Sm e) : Qt e := by
 induction h with
 | mk h1 h2 h3 _ ih => exact .mk h1 (by omega) ih
theorem sm_so {e : Ex.E} (h : Ex.Sm e) : So e := by
 induction h with
 | @mk e h1 h2 h3 _ ih =>
  cases e
  simp only [Ex.E.op] at h2
  exact .mk (by omega) ih
theorem sm_rn {e : Ex.E} (h : Ex.Sm e) : Ex.RtN e := by
 induction h with
 | mk h1 h2 h3 _ ih => exact .mk h1 ih
theorem zod {e : Ex.E} (h : Ex.Sm e) : Ex.Sm (Ex.bare e) := by
 induction h with
 | @mk e h1 h2 h3 _ ih =>
  cases e with
  | mk k o v t nm s g d a =>
   rw [Ex.bare,Ex.zf3]
   refine .mk h1 h2 h3 fun x hx => ?_
   simp only [Ex.E.args,List.mem_map] at hx
   obtain ⟨y,hy,rfl⟩ := hx
   exact ih y hy
mutual
theorem zgi : ∀ e,Ex.count (Ex.bare e) = Ex.count e
 | .mk k o v t n s g d a => by rw [Ex.bare,Ex.count,Ex.count,zj6 a]
theorem zj6 : ∀ l,Ex.counts (Ex.bares l) = Ex.counts l
 | [] => rfl
 | e :: r => by rw [Ex.bares,Ex.counts,Ex.counts,zj6 r,zgi e]
end
variable [Gl]
theorem zkH (e : Ex.E) (a : List Ex.E) (he : cell (encE e) 10 = .list (a.map encE)) (ha : a.length ≤ 900000) (h : ∀ x ∈ a,pr.ev 23 [encE x] [] = some (.ret (.bool (smallE x)),[])) : ∀ (n i : Nat),i + n = a.length →
  lup Out (zbp pr.ev lup) [.int .i64 (i : Nat),encE e] = some (.ret (.bool (zgz (a.drop i))),[])
 | 0,i,hi => by
  have h1 : ¬ i < a.length := by omega
  have h2 : a.drop i = [] := List.drop_of_length_le (by omega)
  rw [zaX]
  simp [-Int.natCast_add,zbp,he,h1,h2,zgz,rtn]
 | n + 1,i,hi => by
  have h1 : i < a.length := by omega
  have h2 : a.drop i = a[i] :: a.drop (i + 1) := List.drop_eq_getElem_cons h1
  have ih := zkH e a he ha h n (i + 1) (by omega)
  have hx := h _ (List.getElem_mem h1)
  rw [zaX,h2,zgz]
  cases hs : smallE a[i]
  ·rw [hs] at hx
   simp [-Int.natCast_add,zbp,he,h1,zbt,zbg,zab hx,rtn]
  ·rw [hs] at hx
   simp [-Int.natCast_add,zbp,he,h1,zbt,zbg,zab hx,zcP (show i ≤ 1000000 by omega),ih]
theorem zsF : ∀ (n : Nat) (e : Ex.E),Ex.deep e ≤ n → vsz (encE e) ≤ 1048576 → pr.ev 23 [encE e] [] = some (.ret (.bool (smallE e)),[])
 | 0,.mk k o v t nm s g d a,h,_ => by rw [zbL] at h;omega
 | n + 1,.mk k o v t nm s g d a,h,hc => by
  rw [zbL] at h
  rw [enc_mk] at hc
  simp only [vsz,vszs] at hc
  have hl := vszs_len (a.map encE)
  rw [List.length_map] at hl
  have h12 := zh8 a
  have hal := zbR a
  have ih : ∀ x ∈ a,pr.ev 23 [encE x] [] = some (.ret (.bool (smallE x)),[]) := fun x hx => zsF n x (by have := zb1 hx;omega) (by have := vszs_mem (List.mem_map_of_mem (f := encE) hx);omega)
  have hlp := zkH (.mk k o v t nm s g d a) a (zho ..) (by omega) ih a.length 0 (by omega)
  simp only [List.drop_zero] at hlp
  refine pr.of rfl (by simp only [List.map,(zbA _).rd];rfl) rfl (zhT _ _ _ _) ?_
  rw [smallE]
  have hw1 : IntKind.wrap .i64 ((o.length : Int) + (t.length : Int)) = ((o.length + t.length : Nat) : Int) := by rw [zdF (by omega) (by omega)];simp
  have hw2 : IntKind.wrap .i64 (((o.length + t.length : Nat) : Int) + (nm.length : Int)) = ((o.length + t.length + nm.length : Nat) : Int) := by rw [zdF (by omega) (by omega)];simp
  by_cases h1 : a.length ≤ 60
  ·have i1 : ¬ 60 < (a.length : Int) := by omega
   by_cases h2 : o.length + t.length + nm.length ≤ 400
   ·have i2 : ¬ 400 < ((o.length + t.length + nm.length : Nat) : Int) := by omega
    by_cases h3 : v.2.2.length ≤ 100
    ·have i3 : ¬ 100 < (v.2.2.length : Int) := by omega
     simp [-Int.natCast_add,zbX,zaT,mk_1,mk_4,mk_5,mk_6,zb6,hw1,hw2,h1,h2,h3,i1,i2,i3]
     exact hlp
    ·have i3 : 100 < (v.2.2.length : Int) := by omega
     simp [-Int.natCast_add,zbX,zaT,mk_1,mk_4,mk_5,mk_6,zb6,hw1,hw2,h1,h2,h3,i1,i2,i3,rtn]
   ·have i2 : 400 < ((o.length + t.length + nm.length : Nat) : Int) := by omega
    simp [-Int.natCast_add,zbX,zaT,mk_1,mk_4,mk_5,mk_6,zb6,hw1,hw2,h1,h2,i1,i2,rtn]
  ·have i1 : 60 < (a.length : Int) := by omega
   simp [-Int.natCast_add,zbX,zaT,zb6,h1,i1,rtn]
def fitsE (e : Ex.E) : Bool := smallE e && decide (Ex.count e ≤ 150)
theorem m_fits (e : Ex.E) (hv : vsz (encE e) ≤ 1048576) : pr.ev 10 [encE e] [] = some (.ret (.bool (fitsE e)),[]) := by
 have h1 := zsF (Ex.deep e) e (Nat.le_refl _) hv
 have h12 := znQ e
 have h2 := zr9 (Ex.deep e) e (Nat.le_refl _) (by omega)
 refine pr.of rfl (by simp only [List.map,(zbA _).rd];rfl) rfl (ziy _ _ _ _) ?_
 rw [fitsE]
 cases hs : smallE e
 ·rw [hs] at h1
  simp [-Int.natCast_add,zcH,zab h1,rtn]
 ·rw [hs] at h1
  by_cases hc : Ex.count e ≤ 150
  ·have hi : (Ex.count e : Int) ≤ 150 := by omega
   simp [-Int.natCast_add,zcH,zab h1,zab h2,hc,hi,rtn]
  ·have hi : ¬ (Ex.count e : Int) ≤ 150 := by omega
   simp [-Int.natCast_add,zcH,zab h1,zab h2,hc,hi,rtn]
theorem znD (e : Ex.E) (hv : vsz (encE e) ≤ 1048576) (hr : R64 e) : pr.ev 4 [encE e] [] = some (.ret (.bool true),[]) := by
 have hf := m_fits e hv
 refine pr.of rfl (by simp only [List.map,(zbA _).rd];rfl) rfl (zfH _ _ _ _) ?_
 cases hfe : fitsE e
 ·rw [hfe] at hf
  simp [-Int.natCast_add,za6,zaK,zab hf,zab zpS,rtn]
 ·rw [hfe] at hf
  rw [fitsE,Bool.and_eq_true,decide_eq_true_eq] at hfe
  have hs := zpf _ e (Nat.le_refl _) hfe.1 hr
  have hR := zr7 own_ok (Ex.deep e) e (Nat.le_refl _) (by omega) (sm_sh hs) (sm_so hs)
  cases hre : Ex.right e
  ·rw [hre] at hR
   simp [-Int.natCast_add,za6,zaK,zab hf,zab hR,zab zpS,rtn]
  ·rw [hre] at hR
   have hrt := Ex.zpr e hre (sm_rn hs)
   have hg := Ex.g_count hrt (zod hs)
   rw [zgi] at hg
   have hgl : Ex.G (Ex.bare e) = (Ex.print (Ex.bare e)).length + 14 := rfl
   have htk : Ex.Tk (Ex.bare e) = (Ex.toks (Ex.pcs (Ex.bare e))).length + 2 := rfl
   have hO := Ex.of_print hrt (by omega) (by omega)
   rw [Ex.zk1] at hgl hO
   rw [Ex.znO] at hO
   have hP := zsK (Ex.deep e) e (Nat.le_refl _) (by omega) hre (sm_qt hs) (by omega)
   have hPr := zr8 (Ex.deep e) e (Nat.le_refl _) (by omega) hre (sm_qt hs) (by omega)
   have hD := r_Deep (Ex.deep e) e (Nat.le_refl _) (by omega)
   by_cases hd : Ex.deep e ≤ 24
   ·have hdi : ¬ ((24 : Int) < (Ex.deep e : Int)) := by omega
    have hO2 := m_Of (s := Ex.print e) (by omega) (hO.2 hd)
    rw [ofV] at hO2
    have hB := r_Bare (Ex.deep e) e (Nat.le_refl _) (by omega)
    have hE := zox (Ex.deep (Ex.bare e)) (Ex.bare e) (Ex.bare e) (Nat.le_refl _) (by rw [zgi];omega) (by rw [zgi];omega) (sm_sh (zod hs)) (sm_sh (zod hs))
    rw [Ex.zli] at hE
    simp [-Int.natCast_add,za6,zaK,zab hf,zab hR,zab hP,zab hPr,zab hO2,zab hD,hdi,zab hB,zab hE,zab zpS,rtn]
   ·have hdi : ((24 : Int) < (Ex.deep e : Int)) := by omega
    have hO2 := m_Of (s := Ex.print e) (by omega) (hO.1 (by omega))
    rw [ofV] at hO2
    simp [-Int.natCast_add,za6,zaK,zab hf,zab hR,zab hP,zab hPr,zab hO2,zab hD,hdi,zab zpS,rtn]
end Go.Proofs.YtakegkongmnekaaGreatDoor
namespace Go.Proofs.YtakegkongmnekaaGreatDoor
open Go.RowKit
open Vm
open Go.ChangeShapes Go.WideShapes Go.ChangeAt Go.ChangeMaps
abbrev exprT : List TypeId := [27,3,9,24,2,4,25]
theorem zoO : ztF Tryz.prog exprT = true := by kernel_rfl
theorem zsi {H : Type} {enc : TypeId × Value → H} {W : World} {base b : Nat} {v : Value} {d : DataW H} {p : List MemPlace} (hv : Value.okWide Tryz.prog W .any base 27 v) (h : DataW.Trod enc Tryz.prog W b (fun _ => true) true 27 v d p) :
  ∃ e : Ex.E,R64 e ∧ vsz (encE e) ≤ Rows.uptoBulk d ∧ RepV W noA (encE e) v := by
 obtain ⟨cs,rfl,hsz⟩ := okWide_struct Tryz.underlying27 hv
 obtain ⟨n,hn⟩ := h
 obtain ⟨us,h1,h2,h3,h4,h5⟩ := zsj zoO n 27 _ _ (List.mem_cons_self ..) hn
 obtain ⟨e,rfl,hr⟩ := ty_expr n us h5
 have ha : zd5 Tryz.prog 27 = true := by kernel_rfl
 rw [if_pos ha] at h3
 refine ⟨e,hr,h3, ?_⟩
 have := RepV.agg (w := W) (A := noA) _ _ h1
 show RepV W noA (.agg (expC e)) _
 simpa [Value.cells] using this
abbrev exprZ : Value := .agg #[.int .i64 0,.string ⟨#[]⟩,.int .i64 0,.int .i64 0,.string ⟨#[]⟩,.string ⟨#[]⟩,.string ⟨#[]⟩,.int .i64 0,.bool false,.bool false,.slice none 0 0]
def exprD {H : Type} : DataW H := .agg [.lit (.int .i64 0),.lit (.string []),.agg [.lit (.int .i64 0),.lit (.int .i64 0),.lit (.string [])],.lit (.string []),.lit (.string []),.lit (.int .i64 0),.lit (.bool false),.lit (.bool false),.nil]
end Go.Proofs.YtakegkongmnekaaGreatDoor
