/- Part of the proof: see the last text. -/
import Derived.Test.YtakegkongmnekaaGreatDoorP25
import Derived.Test.YtakegkongmnekaaGreatDoorP41
import Derived.Test.YtakegkongmnekaaGreatDoorP42
set_option maxRecDepth 20000
set_option linter.unusedVariables false
set_option linter.unusedSimpArgs false
namespace Go.Proofs.YtakegkongmnekaaGreatDoor
open Go.RowKit
open Vm
attribute [local irreducible] wpR wpC
section
variable {P : Program} {G : Nat → Vm.V} {Kp : Vm.V → (Nat → Ent) → Prop} {Q : X → Prop} {x : X} {t : RT} {d : Option Nat} {slot : Nat} {g : Option (Nat × Bool)} {av : List Nat}
theorem zps {fid : FuncId} {f a : O} {i j : Nat} {iv : Int} {v : Vm.V} {e1 e2 : Ent} (hc : zaN P G fid [.int .i64 iv, .ptr 0 0, .ptr 1 0] [e1, e2] (fun o es => o = .ret v ∧ es = [e1, e2])) (h : wpR P G Kp Q t (x.put d v [(i, e1), (j, e2)]))
  (hij : i ≠ j) (he1 : ∀ ρ, e1.ren ρ = e1) (he2 : ∀ ρ, e2.ren ρ = e2) (g1 : e1 ≠ .gone) (g2 : e2 ≠ .gone) (o1 : e1.on (fun k => decide (k < 2)) = true) (o2 : e2.on (fun k => decide (k < 2)) = true)
  (hw : wantX x.env g = some true) (hf : f.ev x.env = .fn fid [] [.ptr i 0, .ptr j 0]) (ha : a.ev x.env = .int .i64 iv) (h1 : x.st i = e1) (h2 : x.st j = e2) (hav : avoidV (av.map x.env) [i, j] = true) :
  wpR P G Kp Q (.step ⟨d, .call false f [a], slot, g, av⟩ t) x := by
 refine zk3 (ids := [i, j]) (ents := [e1, e2]) hc hw hf (vs := [.int .i64 iv, .ptr i 0, .ptr j 0]) (by simp [ha]) ⟨⟨by simpa using hij, rfl, fun k hk => ?_, fun k hk => ?_, fun e he => ?_⟩, rfl, rfl, fun k hk => ?_⟩ (fun h => by cases h) hav ?_
 ·match k, hk with
  | 0, _ => show x.st i = e1.ren _; rw [h1, he1]
  | 1, _ => show x.st j = e2.ren _; rw [h2, he2]
 ·match k, hk with
  | 0, _ => exact g1
  | 1, _ => exact g2
 ·simp only [List.mem_cons, List.not_mem_nil, or_false] at he
  rcases he with rfl | rfl
  ·exact o1
  ·exact o2
 ·left
  match k, hk with
  | 0, _ => exact ⟨.ptr i 0, by simp, by simp [zcW, nameOf]⟩
  | 1, _ => exact ⟨.ptr j 0, by simp, by simp [zcW, nameOf]⟩
 ·rintro o es ⟨rfl, rfl⟩ -
  have hU : lendU [i, j] [e1, e2] = [(i, e1), (j, e2)] := by
   show [(i, e1.ren _), (j, e2.ren _)] = _
   rw [he1, he2]
  dsimp only
  rw [hU]
  exact h
end
section
variable {G : Nat → Vm.V} {s : List UInt8} {l : List Lx.TA} {a : Nat}
def plE (l : List Lx.TA) : Ent := .blk 39 [.list (l.map tokM)]
def plS (s : List UInt8) : Ent := .blk 9 [.str s]
theorem zls (i : Nat) (hi : i ≤ 999999) (hl : l.length ≤ 999999) (hs : s.length ≤ 1000000) : zaN Tryz.prog G 18 [.int .i64 (i : Int), .ptr 0 0, .ptr 1 0] [plE l, plS s] (fun o es => o = .ret (.int .i64 (Ex.zko l s.length i : Nat)) ∧ es = [plE l, plS s]) := by
 refine zaM (zlD G) (by simp) (by simp [L_expr_Of_1]) ?_
 show wpC _ _ 2 (panK 2 _) _ (retK 2 _ _) (mkX [(0, _), (1, _), (2, _)] [(0, _), (1, _)])
 have htk := zcu
 have htc := zdl
 simp only [L_expr_Of_1, zs, za, zl, zc, zE, plE, plS]
 cases hq : l[i]? with
 | some t =>
  rw [zep hq]
  obtain ⟨hlt, hte⟩ := List.getElem?_eq_some_iff.1 hq
  repeat' (first
   | refine ww ?_ | (refine ixl ?_; intro a ha) | (refine ixs ?_; intro c hc)
   | (refine cz ?_ ?_ <;> intro hb)
   | refine zah ?_ ?_)
  all_goals
   refine rt ?_
   exact ⟨rfl, rfl⟩
 | none =>
  rw [zfW hq]
  have hge : l.length ≤ i := by simpa using hq
  repeat' (first
   | refine ww ?_ | (refine ixl ?_; intro a ha) | (refine ixs ?_; intro c hc)
   | (refine cz ?_ ?_ <;> intro hb)
   | refine zah ?_ ?_)
  all_goals
   refine rt ?_
   exact ⟨rfl, rfl⟩
theorem par_m (hs : s.length ≤ 1000000) (h : Lx.scan s = (l, a, 0)) {m : Nat} {r : Ex.R} (hr : Ex.run (l.map (·.1)) m (.lev 0) 0 = some r) : Ret Tryz.prog G 19 [.list (l.map tokM), .int .i64 0] (parV 0 r) :=
 m_Parse (G := G) (p := 0) (by have := zj8 h; omega) (scan_G hs h) (Nat.zero_le _) hr (zi5 h hr).2
set_option maxHeartbeats 4000000 in
theorem m_Of {e : Ex.E} {n : Nat} {no : Int} (hs : s.length ≤ 1000000) (h : Ex.OfR s e n no) : Ret Tryz.prog G 7 [.str s] (ofV e n no) := by
 refine za7 (zpE G) (by simp [L_expr_Of]) ?_
 show wpC _ _ 0 (panK 0 _) _ (retK 0 _ _) (mkX [(0, _)] [])
 have hsc := m_Scan (G := G) hs
 have htk := zcu
 have htc := zdl
 have x0 := zx
 cases h with
 | bad l a no hscan hne =>
  rw [zfL, hscan] at hsc
  have hne' : (no = 0) = False := eq_false hne
  simp only [L_expr_Of, zs, za, zl, zc, zE]
  repeat' (first
   | refine ww ?_ | (refine ixl ?_; intro a ha) | (refine ixs ?_; intro c hc)
   | (refine cr (hsc) ?_)
   | (refine cz ?_ ?_ <;> intro hb)
   | refine zah ?_ ?_)
  all_goals simp [ofV, expC, Ex.e0, Ex.v0]
 | stop l a m q hscan hr =>
  rw [zfL, hscan] at hsc
  have hll := zj8 hscan
  have hpar := par_m (G := G) hs hscan hr
  simp only [parV] at hpar
  have hql : q ≤ l.length := by simpa using Ex.zlc (Nat.zero_le _) hr
  simp only [L_expr_Of, zs, za, zl, zc, zE]
  repeat' (first
   | refine ww ?_ | (refine ixl ?_; intro a ha) | (refine ixs ?_; intro c hc)
   | (refine cr (hsc) ?_)
   | (refine cr (hpar) ?_)
   | (refine zps (i := 20) (j := 10) (zls (l := l) (s := s) q (by omega) (by omega) hs) ?_ (by decide) (fun _ => rfl) (fun _ => rfl) (fun h => by cases h) (fun h => by cases h) rfl rfl (by first | rfl | (simp (config := {maxSteps := 1000000}) (disch := omega) [wantX, ↓zaj, ↓zak, ↓zar, ↓zaq, ↓zap, ↓zas, ↓zaz, ↓zab, ↓zae, ↓zaa, ↓zac, ↓ev_t, ↓ev_c, *]; done)) (by first | rfl | (simp (config := {maxSteps := 1000000}) (disch := omega) [↓zaj, ↓zak, ↓zar, ↓zaq, ↓zap, ↓zas, ↓zaz, ↓zab, ↓zae, ↓zaa, ↓zac, ↓ev_t, ↓ev_c]; done)) (by first | rfl | (simp (config := {maxSteps := 1000000}) (disch := omega) [↓zaj, ↓zak, ↓zar, ↓zaq, ↓zap, ↓zas, ↓zaz, ↓zab, ↓zae, ↓zaa, ↓zac, ↓ev_t, ↓ev_c, *]; done)) (by simp (config := {maxSteps := 1000000}) (disch := omega) [plE, ↓zaj, ↓zak, ↓zar, ↓zaq, ↓zap, ↓zas, ↓zaz, ↓zab, ↓zae, ↓zaa, ↓zac, ↓ev_t, ↓ev_c, *]) (by simp (config := {maxSteps := 1000000}) (disch := omega) [plS, ↓zaj, ↓zak, ↓zar, ↓zaq, ↓zap, ↓zas, ↓zaz, ↓zab, ↓zae, ↓zaa, ↓zac, ↓ev_t, ↓ev_c, *]) (by first | rfl | (simp (config := {maxSteps := 1000000}) (disch := omega) [avoidV, ↓zaj, ↓zak, ↓zar, ↓zaq, ↓zap, ↓zas, ↓zaz, ↓zab, ↓zae, ↓zaa, ↓zac, ↓ev_t, ↓ev_c]; done)))
   | (refine cz ?_ ?_ <;> intro hb)
   | refine zah ?_ ?_)
  all_goals simp [ofV, expC, Ex.e0, Ex.v0]
 | deep l a m q e hscan hr hd =>
  rw [zfL, hscan] at hsc
  have hll := zj8 hscan
  have hpar := par_m (G := G) hs hscan hr
  simp only [parV, if_pos hd] at hpar
  simp only [L_expr_Of, zs, za, zl, zc, zE]
  repeat' (first
   | refine ww ?_ | (refine ixl ?_; intro a ha) | (refine ixs ?_; intro c hc)
   | (refine cr (hsc) ?_)
   | (refine cr (hpar) ?_)
   | (refine zps (i := 20) (j := 10) (zls (l := l) (s := s) 0 (by omega) (by omega) hs) ?_ (by decide) (fun _ => rfl) (fun _ => rfl) (fun h => by cases h) (fun h => by cases h) rfl rfl (by first | rfl | (simp (config := {maxSteps := 1000000}) (disch := omega) [wantX, ↓zaj, ↓zak, ↓zar, ↓zaq, ↓zap, ↓zas, ↓zaz, ↓zab, ↓zae, ↓zaa, ↓zac, ↓ev_t, ↓ev_c, *]; done)) (by first | rfl | (simp (config := {maxSteps := 1000000}) (disch := omega) [↓zaj, ↓zak, ↓zar, ↓zaq, ↓zap, ↓zas, ↓zaz, ↓zab, ↓zae, ↓zaa, ↓zac, ↓ev_t, ↓ev_c]; done)) (by first | rfl | (simp (config := {maxSteps := 1000000}) (disch := omega) [↓zaj, ↓zak, ↓zar, ↓zaq, ↓zap, ↓zas, ↓zaz, ↓zab, ↓zae, ↓zaa, ↓zac, ↓ev_t, ↓ev_c, *]; done)) (by simp (config := {maxSteps := 1000000}) (disch := omega) [plE, ↓zaj, ↓zak, ↓zar, ↓zaq, ↓zap, ↓zas, ↓zaz, ↓zab, ↓zae, ↓zaa, ↓zac, ↓ev_t, ↓ev_c, *]) (by simp (config := {maxSteps := 1000000}) (disch := omega) [plS, ↓zaj, ↓zak, ↓zar, ↓zaq, ↓zap, ↓zas, ↓zaz, ↓zab, ↓zae, ↓zaa, ↓zac, ↓ev_t, ↓ev_c, *]) (by first | rfl | (simp (config := {maxSteps := 1000000}) (disch := omega) [avoidV, ↓zaj, ↓zak, ↓zar, ↓zaq, ↓zap, ↓zas, ↓zaz, ↓zab, ↓zae, ↓zaa, ↓zac, ↓ev_t, ↓ev_c]; done)))
   | (refine cz ?_ ?_ <;> intro hb)
   | refine zah ?_ ?_)
  all_goals simp [ofV, expC, Ex.e0, Ex.v0]
 | rest l a m q e t hscan hr hd hq hk =>
  rw [zfL, hscan] at hsc
  have hll := zj8 hscan
  have hpar := par_m (G := G) hs hscan hr
  simp only [parV, if_neg (show ¬ 24 < Ex.deep e by omega)] at hpar
  simp only [L_expr_Of, zs, za, zl, zc, zE]
  have hpl := zep (n := s.length) hq
  obtain ⟨hlt, hte⟩ := List.getElem?_eq_some_iff.1 hq
  have hk' : (t.1.kind = 0) = False := eq_false hk
  repeat' (first
   | refine ww ?_ | (refine ixl ?_; intro a ha) | (refine ixs ?_; intro c hc)
   | (refine cr (hsc) ?_)
   | (refine cr (hpar) ?_)
   | (refine zps (i := 20) (j := 10) (zls (l := l) (s := s) q (by omega) (by omega) hs) ?_ (by decide) (fun _ => rfl) (fun _ => rfl) (fun h => by cases h) (fun h => by cases h) rfl rfl (by first | rfl | (simp (config := {maxSteps := 1000000}) (disch := omega) [wantX, ↓zaj, ↓zak, ↓zar, ↓zaq, ↓zap, ↓zas, ↓zaz, ↓zab, ↓zae, ↓zaa, ↓zac, ↓ev_t, ↓ev_c, *]; done)) (by first | rfl | (simp (config := {maxSteps := 1000000}) (disch := omega) [↓zaj, ↓zak, ↓zar, ↓zaq, ↓zap, ↓zas, ↓zaz, ↓zab, ↓zae, ↓zaa, ↓zac, ↓ev_t, ↓ev_c]; done)) (by first | rfl | (simp (config := {maxSteps := 1000000}) (disch := omega) [↓zaj, ↓zak, ↓zar, ↓zaq, ↓zap, ↓zas, ↓zaz, ↓zab, ↓zae, ↓zaa, ↓zac, ↓ev_t, ↓ev_c, *]; done)) (by simp (config := {maxSteps := 1000000}) (disch := omega) [plE, ↓zaj, ↓zak, ↓zar, ↓zaq, ↓zap, ↓zas, ↓zaz, ↓zab, ↓zae, ↓zaa, ↓zac, ↓ev_t, ↓ev_c, *]) (by simp (config := {maxSteps := 1000000}) (disch := omega) [plS, ↓zaj, ↓zak, ↓zar, ↓zaq, ↓zap, ↓zas, ↓zaz, ↓zab, ↓zae, ↓zaa, ↓zac, ↓ev_t, ↓ev_c, *]) (by first | rfl | (simp (config := {maxSteps := 1000000}) (disch := omega) [avoidV, ↓zaj, ↓zak, ↓zar, ↓zaq, ↓zap, ↓zas, ↓zaz, ↓zab, ↓zae, ↓zaa, ↓zac, ↓ev_t, ↓ev_c]; done)))
   | (refine cz ?_ ?_ <;> intro hb)
   | refine zah ?_ ?_)
  all_goals simp [ofV, expC, Ex.e0, Ex.v0, hte, hpl]
 | ok l a m q e hscan hr hd hk =>
  rw [zfL, hscan] at hsc
  have hpar := par_m (G := G) hs hscan hr
  simp only [parV, if_neg (show ¬ 24 < Ex.deep e by omega)] at hpar
  simp only [L_expr_Of, zs, za, zl, zc, zE]
  cases hq : l[q]? with
  | some t =>
   obtain ⟨hlt, hte⟩ := List.getElem?_eq_some_iff.1 hq
   have hk' := hk t hq
   repeat' (first
    | refine ww ?_ | (refine ixl ?_; intro a ha) | (refine ixs ?_; intro c hc)
    | (refine cr (hsc) ?_)
    | (refine cr (hpar) ?_)
    | (refine cz ?_ ?_ <;> intro hb)
    | refine zah ?_ ?_)
   all_goals simp [ofV]
  | none =>
   have hge : l.length ≤ q := by simpa using hq
   repeat' (first
    | refine ww ?_ | (refine ixl ?_; intro a ha) | (refine ixs ?_; intro c hc)
    | (refine cr (hsc) ?_)
    | (refine cr (hpar) ?_)
    | (refine cz ?_ ?_ <;> intro hb)
    | refine zah ?_ ?_)
   all_goals simp [ofV]
end
end Go.Proofs.YtakegkongmnekaaGreatDoor
namespace Go.Proofs.YtakegkongmnekaaGreatDoor
open Go.RowKit
open Vm
attribute [local irreducible] wpR wpC
theorem rt_qt {e : Ex.E} (h : Ex.Rt e) : Qt e := by
 have hz : Ex.N64 (Ex.eVal Ex.v0) := ⟨by decide, by decide⟩
 have h0 : (Ex.eVal Ex.v0).val.2.2.length ≤ 1000000 := by decide
 induction h with
 | val v h1 h2 h3 =>
  refine .mk h3 ?_ (fun x hx => by cases hx)
  unfold Ex.mayV at h1
  show v.2.2.length ≤ 1000000
  split at h1
  ·simp only [Bool.and_eq_true, beq_iff_eq] at h1; rw [h1.2]; decide
  ·split at h1
   ·rw [beq_iff_eq.1 h1]; decide
   ·split at h1
    ·simp only [Bool.and_eq_true, decide_eq_true_eq] at h1; omega
    ·cases h1
 | col t n => exact .mk hz h0 (fun x hx => by cases hx)
 | un op a _ _ ih => exact .mk hz h0 (fun x hx => by obtain rfl := List.mem_singleton.1 hx; exact ih)
 | bin op a b _ _ _ i1 i2 => exact .mk hz h0 (fun x hx => by
   simp only [Ex.eBin, Ex.E.args, List.mem_cons, List.not_mem_nil, or_false] at hx
   rcases hx with rfl | rfl <;> assumption)
 | is g a b _ _ i1 i2 => exact .mk hz h0 (fun x hx => by
   simp only [Ex.eIs, Ex.E.args, List.mem_cons, List.not_mem_nil, or_false] at hx
   rcases hx with rfl | rfl <;> assumption)
 | in_ g a l _ _ _ i1 i2 => exact .mk hz h0 (fun x hx => by
   simp only [Ex.eIn, Ex.E.args, List.mem_cons] at hx
   rcases hx with rfl | hx
   ·assumption
   ·exact i2 x hx)
 | btw g a b c _ _ _ i1 i2 i3 => exact .mk hz h0 (fun x hx => by
   simp only [Ex.eBtw, Ex.E.args, List.mem_cons, List.not_mem_nil, or_false] at hx
   rcases hx with rfl | rfl | rfl <;> assumption)
 | like g a b _ _ i1 i2 => exact .mk hz h0 (fun x hx => by
   simp only [Ex.zaY, Ex.E.args, List.mem_cons, List.not_mem_nil, or_false] at hx
   rcases hx with rfl | rfl <;> assumption)
 | case d l _ _ _ ih => exact .mk hz h0 ih
 | fn op l _ _ _ _ ih => exact .mk hz h0 ih
 | agg op d a _ _ ih => exact .mk hz h0 (fun x hx => by obtain rfl := List.mem_singleton.1 hx; exact ih)
 | star => exact .mk hz h0 (fun x hx => by cases hx)
 | cast op a _ _ ih => exact .mk hz h0 (fun x hx => by obtain rfl := List.mem_singleton.1 hx; exact ih)
section
variable {G : Nat → Vm.V}
set_option maxHeartbeats 8000000 in
theorem m_live (hr : Repl G) (j1 : zkX G [44, 32]) (j2 : zkX G [32]) : Ret Tryz.prog G 6 [] (.bool true) := by
 refine za7 (zgC G) (by simp [L_tomelaw25_live]) ?_
 show wpC _ _ 0 (panK 0 _) _ (retK 0 _ _) (mkX [] [])
 have x0 := zx
 have Ha := Ex.zku Ex.live_a
 have F1 : Ret Tryz.prog G 7 [.str Ex.sA] (.tup [.agg (expC Ex.exA), .int .i64 30, .int .i64 0]) := m_Of (s := Ex.sA) (by decide) Ex.live_a
 have F2 : Ret Tryz.prog G 7 [.str Ex.sB] (.tup [.agg (expC (Ex.eVal (1, -5, []))), .int .i64 3, .int .i64 0]) := m_Of (s := Ex.sB) (by decide) Ex.live_b
 rw [show expC (Ex.eVal (1, -5, [])) = [.int .i64 1, .str [], .int .i64 1, .int .i64 (-5), .str [], .str [], .str [], .int .i64 0, .bool false, .bool false, .list []] from by rw [Ex.eVal, expC]; rfl] at F2
 have F3 : Ret Tryz.prog G 7 [.str Ex.sC] (.tup [.agg (expC Ex.e0), .int .i64 2, .int .i64 20]) := m_Of (s := Ex.sC) (by decide) Ex.live_c
 have F4 : Ret Tryz.prog G 7 [.str Ex.sD] (.tup [.agg (expC Ex.e0), .int .i64 3, .int .i64 20]) := m_Of (s := Ex.sD) (by decide) Ex.live_d
 have hrt := (Ha.2.2.2 rfl).1
 have F5 := zo1 (G := G) hr j1 j2 _ Ex.exA (Nat.le_refl _) (by have := Ha.2.1; omega) hrt.right (rt_qt hrt) (by rw [Ex.zoz]; decide)
 rw [Ex.zoz] at F5
 clear Ha hrt
 generalize Ex.exA = A at *
 simp only [Ex.tA] at F5
 simp only [L_tomelaw25_live, zs, za, zl, zc, zE]
 repeat' (first
  | refine ww ?_ | (refine ixl ?_; intro a ha) | (refine ixs ?_; intro c hc)
  | (refine cr (F1) ?_)
  | (refine cr (F2) ?_)
  | (refine cr (F3) ?_)
  | (refine cr (F4) ?_)
  | (refine cr (F5) ?_)
  | (refine cz ?_ ?_ <;> intro hb)
  | refine zah ?_ ?_)
 rfl
theorem ofV_is (e : Ex.E) (n : Nat) (no : Int) : ofV e n no = .tup [.agg (expC e), .int .i64 (n : Int), .int .i64 no] := rfl
set_option maxHeartbeats 8000000 in
theorem m_ExprOf (hr : Repl G) (j1 : zkX G [44, 32]) (j2 : zkX G [32]) (s : List UInt8) : Ret Tryz.prog G 3 [.str s] (.bool true) := by
 have FL := m_live (G := G) hr j1 j2
 refine za7 (zfr G) (by simp [L_tomelaw25_ExprOf]) ?_
 show wpC _ _ 0 (panK 0 _) _ (retK 0 _ _) (mkX [(0, _)] [])
 have x0 := zx
 by_cases hs : s.length ≤ 2048
 ·obtain ⟨e, n, no, h⟩ := Ex.zoN s
  have hsm := Ex.zku h
  have F1 := m_Of (G := G) (by omega) h
  have F2 := r_Of (G := G) (by omega) h
  have F3 := zow (G := G) _ e e (Nat.le_refl _) (by omega) (by omega) hsm.1 hsm.1
  rw [Ex.ziG] at F3
  rw [ofV_is] at F1 F2
  have hg : ¬ (2048 : Int) < (s.length : Int) := by omega
  clear hsm h
  simp only [L_tomelaw25_ExprOf, zs, za, zl, zc, zE]
  repeat' (first
   | refine ww ?_ | (refine ixl ?_; intro a ha) | (refine ixs ?_; intro c hc)
   | (refine cr (FL) ?_)
   | (refine cr (F1) ?_)
   | (refine cr (F2) ?_)
   | (refine cr (F3) ?_)
   | (refine cz ?_ ?_ <;> intro hb)
   | refine zah ?_ ?_)
  rfl
 ·have hg : (2048 : Int) < (s.length : Int) := by omega
  simp only [L_tomelaw25_ExprOf, zs, za, zl, zc, zE]
  repeat' (first
   | refine ww ?_ | (refine ixl ?_; intro a ha) | (refine ixs ?_; intro c hc)
   | (refine cr (FL) ?_)
   | (refine cz ?_ ?_ <;> intro hb)
   | refine zah ?_ ?_)
  rfl
end
end Go.Proofs.YtakegkongmnekaaGreatDoor
namespace Go.Proofs.YtakegkongmnekaaGreatDoor
open Go.RowKit
open Vm
theorem zkS {P : Program} {G : Nat → Vm.V} {f : FuncId} {args : List Vm.V} {v : Vm.V} (h : Ret P G f args v) {w : World} {vals : Array Value} (hv : RepL w (fun _ _ => False) args vals.toList)
  (hg : ∀ g, G g = .any ∨ RepV w (fun _ _ => False) (G g) (.pointer (some ⟨g, 0, none⟩))) : Calls P f vals w fun e w' => Below w.heap.size w w' ∧ ∃ A', OutRep w' A' (.ret v) e := by
 have hm : Mem ⟨w, fun _ _ => False, 0, fun _ => Value.nilIface, entF [], G, 0, []⟩ (entF []) w (fun _ => Value.nilIface) (fun _ _ => False) :=
  { glo := hg, kp := Keeps.refl _ _, ent := fun id => trivial, dis := fun id id' _ h => absurd rfl h, a00 := fun b o h => h.elim, a0 := fun b o h _ => h, al := fun b o h => h.elim, out := Foll.refl _ _, lent := fun id b h => absurd h (Nat.not_lt_zero _), loc := fun id b _ h => absurd rfl h, ext := ⟨rfl, rfl, rfl, Nat.le_refl _, fun _ _ _ => rfl⟩ }
 refine Calls.mono (h.2 w _ _ vals hm (zgN hv)) fun e w' ⟨o, es, H', A', ⟨ho, hes⟩, _, _, hm', hout⟩ => ?_
 subst ho
 exact ⟨⟨hm'.ext.os, hm'.ext.tape, hm'.ext.output, hm'.ext.size, fun k hk => hm'.ext.block k hk (fun id h => absurd h (Nat.not_lt_zero _))⟩, A', hout⟩
theorem xcell_lt {w : World} {b o : Nat} {v : Value} (h : w.cell? ⟨b, o, none⟩ = some v) : b < w.heap.size := by
 false_or_by_contra
 rename_i hn
 have : w.heap[b]? = none := Array.getElem?_eq_none (by omega)
 simp [World.cell?, this] at h
def gOf (m : Int) : Nat → Vm.V := fun g => if g = shRen.g 1 then .ip (.int .i64 m) 0 else .any
theorem gOf_at (m : Int) : gOf m (shRen.g 1) = .ip (.int .i64 m) 0 := if_pos rfl
theorem gOf_rep {W : World} {m : Int} (h : W.cell? ⟨shRen.g 1, 0, none⟩ = some (.int .i64 m)) (g : Nat) : gOf m g = .any ∨ RepV W (fun _ _ => False) (gOf m g) (.pointer (some ⟨g, 0, none⟩)) := by
 by_cases hg : g = shRen.g 1
 ·subst hg
  right
  rw [gOf_at]
  refine .ip (.int .i64 m) 0 (shRen.g 1) 0 [.int .i64 m] (.one _ _ rfl (.int _ _)) ⟨?_, fun j u hu => ⟨?_, fun h => h⟩⟩
  ·exact xcell_lt h
  ·match j, hu with
   | 0, hu =>
    cases hu
    exact h
 ·left
  exact if_neg hg
theorem g_cell {W : World} (h : W.ShapedOpen Tryz.prog) : ∃ m, W.cell? ⟨shRen.g 1, 0, none⟩ = some (.int .i64 m) :=
 Go.Proofs.cell_of_shapedOpen_int (t := 3) (zero := #[.int .i64 0]) h (of_decide_eq_true (by kernel_rfl)) (by kernel_rfl) rfl (by kernel_rfl) (by kernel_rfl) (by kernel_rfl)
theorem g_repl (m : Int) : Repl (gOf m) := fun s hs => zkB (gOf_at m) hs
theorem zpe (m : Int) (sep : List UInt8) : zkX (gOf m) sep := fun xs h1 h2 => m_Join h1 h2
section
variable {H : Type} {enc : TypeId × Value → H}
theorem zf2 {a : Assume} {C : Checked} {os : Os} {f : FuncId} {fn : Func} {s : ChangeSpec} {conds : List PathCond} {apart fresh handsOn again : Bool} {X : World → Array Value → Prop}
  (hX : ∀ (w w' : World) (args : Array Value), w.heap = w'.heap → X w args → X w' args)
  (own : ownKnob C.prog.godebug = none) (started : os.Started) (noInit : C.prog.inits.idxOf? f = none) (hfn : C.prog.funcs[f]? = some fn)
  (witness : ∃ (w : World) (tape : Tape) (i : Input), w.os = os ∧ (w.forCall tape i).Shaped C.prog ∧ i.vars = [] ∧ Input.okWide C.prog (w.forCall tape i) .any w.heap.size f i ∧
   ((s.pre enc C.prog fn conds apart (w.forCall tape i).memory i.args ∧ X (w.forCall tape i).memory i.args) ∧ sizedMet enc C.prog fn (OpenSpec.ofChange s) apart (w.forCall tape i).memory i.args) ∧ a.holds C.prog (lone (Frame.enter C.prog f i.args .normal) [] (w.forCall tape i)))
  (contract : ∀ (W : World) (base : Nat) (args : Array Value) (ds gs : List (DataW H)) (before : List MemPlace),
   (∀ (j : Nat) t v, fn.params[j]? = some t → args[j]? = some v → Value.okWide C.prog W .any base t v) →
   DataW.Whole enc C.prog fn.params.toList s.vars apart W args.toList ds gs before →
   conds.all (PathCond.test C.prog ⟨fn.params.toList, ds, s.plain.varTypes C.prog, gs⟩) = true →
   (DataW.weightsEach C.prog (fn.params.toList ++ s.plain.varTypes C.prog) (ds ++ gs)).all (· ≤ reachBytes) = true → X W args → W.ShapedOpen C.prog →
   a.holds C.prog (lone (Frame.enter C.prog f args .normal) [] W) →
   Calls C.prog f args W fun e W' => ∃ v, e = .returned v ∧ s.post enc C.prog fn apart fresh handsOn again W args v W') :
  ReturnsInHanded a C os f .any (fun w args => (s.pre enc C.prog fn conds apart w args ∧ X w args) ∧ sizedMet enc C.prog fn (OpenSpec.ofChange s) apart w args) (s.post enc C.prog fn apart fresh handsOn again) := by
 refine returnsInHanded_of_calls own started noInit witness ?_
 intro w tape i _ hsh _ hok hpre hholds
 obtain ⟨_, _, _, fn', hfn', _, _, _, _, hval⟩ := hok
 have e : fn' = fn := Option.some.inj (hfn'.symm.trans hfn)
 subst e
 obtain ⟨⟨⟨ds, gs, before, hw, hc⟩, hx⟩, hz⟩ := hpre
 have hw' := DataW.Whole.of_heap (w' := w.forCall tape i) (by rfl) hw
 refine (contract (w.forCall tape i) w.heap.size i.args ds gs before hval hw' hc (hz.weights hw) (hX _ _ _ (by rfl) hx) hsh hholds).mono fun e W' ⟨v, he, hp⟩ => ?_
 subst he
 exact ChangeSpec.post_blind hp
end
abbrev znj : List (String × DataW Unit) := [("unicode/utf8.acceptRanges", Rows.laid_unicode_utf8_acceptRanges), ("unicode/utf8.first", Rows.laid_unicode_utf8_first)]
theorem znD (os : Os) (args : Array Value) : laidMetH Tryz.prog znj ((World.laidAll Tryz.prog os znj).forCall (fun _ _ => 0) ⟨#[], args, []⟩).memory := by
 rw [MakeChecks.laidMetH_plain _ _ _ (by kernel_rfl)]
 exact laidMet_laidAll _ (by kernel_rfl) (by kernel_rfl)
theorem xOwn_ : ownKnob Tryz.prog.godebug = none := by kernel_rfl
end Go.Proofs.YtakegkongmnekaaGreatDoor
