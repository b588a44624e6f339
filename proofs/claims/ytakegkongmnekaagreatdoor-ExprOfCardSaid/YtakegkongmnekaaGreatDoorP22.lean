/- Part of the proof: see the last text. -/
import Derived.Test.YtakegkongmnekaaGreatDoorP21
set_option maxRecDepth 20000
set_option linter.unusedVariables false
set_option linter.unusedSimpArgs false
namespace Vm
open Go Go.RowKit
def Ret (P : Program) (G : Nat → V) (f : FuncId) (args : List V) (v : V) : Prop := zaN P G f args [] fun o es => o = .ret v ∧ es = []
def RetX (P : Program) (G : Nat → V) (f : FuncId) (args : List V) (S : V → Prop) : Prop := zaN P G f args [] fun o es => (∃ v, o = .ret v ∧ S v) ∧ es = []
theorem Ret.x {P : Program} {G : Nat → V} {f : FuncId} {args : List V} {v : V} (h : Ret P G f args v) : RetX P G f args (· = v) := h.mono fun o es ⟨h1, h2⟩ => ⟨⟨v, h1, rfl⟩, h2⟩
theorem RetX.mono {P : Program} {G : Nat → V} {f : FuncId} {args : List V} {S S' : V → Prop} (h : RetX P G f args S) (hs : ∀ v, S v → S' v) : RetX P G f args S' := zaN.mono h fun o es ⟨⟨v, h1, h3⟩, h2⟩ => ⟨⟨v, h1, hs v h3⟩, h2⟩
theorem RetX.ret {P : Program} {G : Nat → V} {f : FuncId} {args : List V} {v : V} (h : RetX P G f args (· = v)) : Ret P G f args v := zaN.mono h fun o es ⟨⟨v, h1, h3⟩, h2⟩ => ⟨by rw [h1, h3], h2⟩
theorem za7 {P : Program} {G : Nat → V} {s : Nat} {f : FuncId} {F : FC} (hc : zaX P G s f = some F) {args : List V} (ha : args.length ≤ F.N) {v : V}
  (h : wpC P G 0 (panK 0 fun o es => o = .ret v ∧ es = []) F.code (retK 0 F.res fun o es => o = .ret v ∧ es = []) (zdT args [])) : Ret P G f args v := zaM hc (Nat.zero_le _) ha h
theorem zde {P : Program} {G : Nat → V} {s : Nat} {f : FuncId} {F : FC} (hc : zaX P G s f = some F) {args : List V} (ha : args.length ≤ F.N) {R : V → Prop}
  (h : wpC P G 0 (panK 0 fun o es => (∃ v, o = .ret v ∧ R v) ∧ es = []) F.code (retK 0 F.res fun o es => (∃ v, o = .ret v ∧ R v) ∧ es = []) (zdT args [])) : RetX P G f args R := zaM hc (Nat.zero_le _) ha h
theorem zgG {P : Program} {G : Nat → V} {Kp : V → (Nat → Ent) → Prop} {Q Q' : X → Prop} (h : ∀ x, Q x → Q' x) : ∀ (t : RT) (x : X), wpR P G Kp Q t x → wpR P G Kp Q' t x
 | .done, x, hq => h x hq
 | .step mo t, x, hq => zfJ (fun y hy => zgG h t y hy) hq
 | .alt a b, x, hq => ⟨zgG h a x hq.1, zgG h b x hq.2⟩
 | .bad, x, hq => hq.elim
theorem wpC_mono {P : Program} {G : Nat → V} {n0 : Nat} {Kp : V → (Nat → Ent) → Prop} : ∀ {Q Q' : PEx → X → Prop} (h : ∀ e x, Q e x → Q' e x) (c : C) (x : X), wpC P G n0 Kp c Q x → wpC P G n0 Kp c Q' x
 | _, _, h, .skip, x, hq => h _ _ hq
 | _, _, h, .reg t, x, hq => zgG (fun y hy => h _ _ hy) t x hq
 | _, _, h, .seq a b, x, hq => wpC_mono (fun e y hy => by cases e <;> first | exact h _ _ hy | exact wpC_mono h b y hy) a x hq
 | _, _, h, .cond o a b, x, hq => by
  unfold wpC at hq ⊢
  generalize o.ev x.env = v at hq ⊢
  cases v with
  | bool t => cases t; exact wpC_mono h b x hq; exact wpC_mono h a x hq
  | _ => exact hq.elim
 | _, _, h, .block i b, x, hq => wpC_mono (fun e y hy => by
   cases e with
   | exit j =>
    simp only [zeJ] at hy ⊢
    split at hy
    ·rename_i he; rw [if_pos he]; exact h _ _ hy
    ·rename_i he; rw [if_neg he]; exact h _ _ hy
   | _ => exact h _ _ hy) b x hq
 | _, _, h, .loop b, x, ⟨fz, live, keep, I, μ, h1, h2, h3⟩ => ⟨fz, live, keep, I, μ, h1, h2, fun y hy => wpC_mono (fun e z hz => by cases e <;> first | exact hz | exact h _ _ hz) b y (h3 y hy)⟩
 | _, _, h, .exit i, x, hq => h _ _ hq
 | _, _, h, .scope b, x, hq => wpC_mono h b x hq
 | _, _, h, .ret, x, hq => h _ _ hq
noncomputable def minM {σ : Type} (mk : σ → X) (J : σ → Prop) (μ : σ → Nat) (y : X) : Nat :=
 open Classical in if h : ∃ s, J s ∧ y = mk s ∧ ∀ s', J s' → y = mk s' → μ s ≤ μ s' then μ h.choose else 0
theorem zff {σ : Type} {mk : σ → X} {J : σ → Prop} {μ : σ → Nat} {s : σ} (hs : J s) : ∃ s1, J s1 ∧ mk s = mk s1 ∧ minM mk J μ (mk s) = μ s1 ∧ minM mk J μ (mk s) ≤ μ s := by
 have hmin : ∀ (n : Nat) u, μ u = n → J u → mk s = mk u → ∃ s1, J s1 ∧ mk s = mk s1 ∧ ∀ s', J s' → mk s = mk s' → μ s1 ≤ μ s' := by
  intro n
  induction n using Nat.strongRecOn with
  | _ n ih =>
   intro u hn hu he
   by_cases hx : ∃ s', J s' ∧ mk s = mk s' ∧ μ s' < μ u
   ·obtain ⟨s', h2, h3, h4⟩ := hx
    exact ih _ (hn ▸ h4) s' rfl h2 h3
   ·exact ⟨u, hu, he, fun u' hu' he' => Nat.le_of_not_lt fun hlt => hx ⟨u', hu', he', hlt⟩⟩
 have hex := hmin _ s rfl hs rfl
 have hc := hex.choose_spec
 have hm : minM mk J μ (mk s) = μ hex.choose := dif_pos hex
 exact ⟨hex.choose, hc.1, hc.2.1, hm, by rw [hm]; exact hc.2.2 s hs rfl⟩
theorem zmb {l : List V} (h : l.all (V.on fun k => decide (k < 0)) = true) : l.map (V.ren (nameOf [])) = l := by
 have h0 : ∀ v : V, onS (fun k => decide (k < 0)) v = true → renS (nameOf []) v = v := fun v hv => by
  cases v <;> first | rfl | (simp [onS] at hv)
 have h1 : ∀ v : V, V.on (fun k => decide (k < 0)) v = true → V.ren (nameOf []) v = v := fun v hv => by
  cases v <;> first | rfl | (simp [V.on] at hv; done) | skip
  rename_i f a b
  simp only [V.on, Bool.and_eq_true, List.all_eq_true] at hv
  simp only [V.ren]
  congr 1
  ·exact (List.map_congr_left fun v hm => h0 v (hv.1 v hm)).trans (by simp)
  ·exact (List.map_congr_left fun v hm => h0 v (hv.2 v hm)).trans (by simp)
 exact (List.map_congr_left fun v hm => h1 v (List.all_eq_true.1 h v hm)).trans (by simp)
section
variable {P : Program} {G : Nat → V} {n0 : Nat} {Kp : V → (Nat → Ent) → Prop} {Q : X → Prop} {QC : PEx → X → Prop} {x : X} {t : RT} {d : Option Nat} {slot : Nat} {g : Option (Nat × Bool)} {av : List Nat}
theorem ci0 {o : O} {a b : C} {v : Bool} (ho : o.ev x.env = .bool v) (h1 : v = true → wpC P G n0 Kp a QC x) (h2 : v = false → wpC P G n0 Kp b QC x) : wpC P G n0 Kp (.cond o a b) QC x := by
 cases v
 ·exact zjK ho (h2 rfl)
 ·exact zmN ho (h1 rfl)
theorem gi0 {m : M} {i : Nat} {w v : Bool} (ho : x.env i = .bool v) (h1 : v = w → wpR P G Kp Q (.step ⟨d, m, slot, none, av⟩ t) x) (h2 : v = !w → wpR P G Kp Q t (x.put d .undef [])) : wpR P G Kp Q (.step ⟨d, m, slot, some (i, w), av⟩ t) x := by
 cases hv : (v == w)
 ·exact zhd (by simp [wantX, ho, hv]) (h2 (by cases v <;> cases w <;> simp_all))
 ·have h3 := h1 (by simpa using hv)
  have hw : wantX x.env (some (i, w)) = some true := by simp [wantX, ho, hv]
  have h4 : zb8 P G ⟨d, m, slot, some (i, w), av⟩ (wpR P G Kp Q t) Kp x ↔ zb8 P G ⟨d, m, slot, none, av⟩ (wpR P G Kp Q t) Kp x := by
   unfold zb8
   dsimp only
   rw [hw]
   simp only [wantX]
  exact h4.2 h3
theorem ixl0 {α : Type} {f : α → V} {L : List α} {k : IntKind} {n : Int} {z : Nat} {y i : O} {w : V} (hw : wantX x.env g = some true) (hy : y.ev x.env = w) (hx : norm0 (res x.st w) = .list (L.map f)) (hi : i.ev x.env = .int k n) (h0 : 0 ≤ n) (h1 : n.toNat < L.length) (hz : ∀ a, (f a).size = z)
  (h : ∀ a, L[n.toNat]? = some a → wpR P G Kp Q t (x.put d (.ip (f a) 0) [])) : wpR P G Kp Q (.step ⟨d, .iaddr z y i, slot, g, av⟩ t) x := by
 obtain ⟨a, ha⟩ : ∃ a, L[n.toNat]? = some a := ⟨_, List.getElem?_eq_getElem h1⟩
 refine zaT rfl hw (v := .ip (f a) 0) (U := []) ?_ (h a ha)
 simp only [semM, hy, hx, hi, List.getElem?_map, ha, Option.map_some, h0, hz, true_and, if_true]
theorem ixs0 {s : List UInt8} {k : IntKind} {n : Int} {y i : O} (hw : wantX x.env g = some true) (hx : y.ev x.env = .str s) (hi : i.ev x.env = .int k n) (h0 : 0 ≤ n) (h1 : n.toNat < s.length)
  (h : ∀ c, s[n.toNat]? = some c → wpR P G Kp Q t (x.put d (.int .u8 (c.toNat : Int)) [])) : wpR P G Kp Q (.step ⟨d, .idx y i, slot, g, av⟩ t) x := by
 obtain ⟨a, ha⟩ : ∃ a, s[n.toNat]? = some a := ⟨_, List.getElem?_eq_getElem h1⟩
 refine zaT rfl hw (v := .int .u8 (a.toNat : Int)) (U := []) ?_ (h a ha)
 simp only [semM, hx, hi, ha, h0, if_true]
theorem zmP {e : Nat → V} {dn : Nat} {lo : Option O} {l : Nat} (h : lo = none ∧ l = dn ∨ ∃ (o : O) (k : IntKind) (n : Int), lo = some o ∧ o.ev e = .int k n ∧ 0 ≤ n ∧ l = n.toNat) : bnd dn (lo.map (O.ev e)) = some l := by
 rcases h with ⟨rfl, rfl⟩ | ⟨o, k, n, rfl, h1, h2, rfl⟩
 ·rfl
 ·simp [bnd, h1, h2]
theorem sls0 {s : List UInt8} {y : O} {lo hi : Option O} {l r : Nat} (hw : wantX x.env g = some true) (hx : y.ev x.env = .str s)
  (hl : lo = none ∧ l = 0 ∨ ∃ (o : O) (k : IntKind) (n : Int), lo = some o ∧ o.ev x.env = .int k n ∧ 0 ≤ n ∧ l = n.toNat) (hr : hi = none ∧ r = s.length ∨ ∃ (o : O) (k : IntKind) (n : Int), hi = some o ∧ o.ev x.env = .int k n ∧ 0 ≤ n ∧ r = n.toNat) (h1 : l ≤ r) (h2 : r ≤ s.length)
  (h : wpR P G Kp Q t (x.put d (.str ((s.take r).drop l)) [])) : wpR P G Kp Q (.step ⟨d, .sls y lo hi, slot, g, av⟩ t) x := by
 refine zaT rfl hw (v := .str ((s.take r).drop l)) (U := []) ?_ h
 simp only [semM, hx, zaf, zmP hl, zmP hr, h1, h2, one1, true_and, if_true]
theorem sll0 {α : Type} {f : α → V} {L : List α} {z : Nat} {y : O} {w : V} {lo hi : Option O} {l r : Nat} (hw : wantX x.env g = some true) (hy : y.ev x.env = w) (hx : norm0 (res x.st w) = .list (L.map f))
  (hl : lo = none ∧ l = 0 ∨ ∃ (o : O) (k : IntKind) (n : Int), lo = some o ∧ o.ev x.env = .int k n ∧ 0 ≤ n ∧ l = n.toNat) (hr : hi = none ∧ r = L.length ∨ ∃ (o : O) (k : IntKind) (n : Int), hi = some o ∧ o.ev x.env = .int k n ∧ 0 ≤ n ∧ r = n.toNat) (h1 : l ≤ r) (h2 : r ≤ L.length) (hz : ∀ a, (f a).size = z)
  (h : wpR P G Kp Q t (x.put d (.list (((L.take r).drop l).map f)) [])) : wpR P G Kp Q (.step ⟨d, .sll z y lo hi, slot, g, av⟩ t) x := by
 refine zaT rfl hw (v := .list (((L.take r).drop l).map f)) (U := []) ?_ h
 have hr' : bnd (L.map f).length (hi.map (O.ev x.env)) = some r := by rw [List.length_map]; exact zmP hr
 have hall : ∀ v ∈ L.map f, v.size = z := fun v hv => by
  obtain ⟨a, _, rfl⟩ := List.mem_map.1 hv
  exact hz a
 have h2' : r ≤ (L.map f).length := by simpa using h2
 simp only [semM, hy, hx, zag, zmP hl, hr', h1, h2', one1, true_and, if_pos hall, if_true, List.map_drop, List.map_take]
theorem cat0 {a b : List UInt8} {bb bi bs : Bool} {y z : O} (hw : wantX x.env g = some true) (hx : y.ev x.env = .str a) (hy : z.ev x.env = .str b) (hl : a.length + b.length ≤ 4611686018427387904) (h : wpR P G Kp Q t (x.put d (.str (a ++ b)) [])) : wpR P G Kp Q (.step ⟨d, .arith .add bb bi bs y z, slot, g, av⟩ t) x := by
 refine zaT rfl hw (v := .str (a ++ b)) (U := []) ?_ h
 simp only [semM, hx, hy, strV, if_pos hl, one1]
theorem cr0 {b : Bool} {args : List O} {fid : FuncId} {us args' : List V} {v : V} (hw : wantX x.env g = some true) (hq : args.map (O.ev x.env) = us) (hn : us.map (argV x.st) = args') (hon : args'.all (V.on fun k => decide (k < 0)) = true) (hc : Ret P G fid args' v)
  (h : wpR P G Kp Q t (x.put d v [])) : wpR P G Kp Q (.step ⟨d, .call b (.c (.fn fid [] [])) args, slot, g, av⟩ t) x :=
 ziZ hc hw rfl rfl (by rw [List.nil_append, List.append_nil, hq]; exact hn.trans (zmb hon).symm) hon fun o ho => by
  obtain ⟨rfl, -⟩ := ho
  exact h
theorem cx0 {b : Bool} {args : List O} {fid : FuncId} {us args' : List V} {R : V → Prop} (hw : wantX x.env g = some true) (hq : args.map (O.ev x.env) = us) (hn : us.map (argV x.st) = args') (hon : args'.all (V.on fun k => decide (k < 0)) = true) (hc : RetX P G fid args' R)
  (h : ∀ v, R v → wpR P G Kp Q t (x.put d v [])) : wpR P G Kp Q (.step ⟨d, .call b (.c (.fn fid [] [])) args, slot, g, av⟩ t) x :=
 ziZ hc hw rfl rfl (by rw [List.nil_append, List.append_nil, hq]; exact hn.trans (zmb hon).symm) hon fun o ho => by
  obtain ⟨⟨v, rfl, hv⟩, -⟩ := ho
  exact h v hv
theorem re0 {l : List RV} {v u : V} (hv : outV l x = u) (hd : zev l x = true) (hu : u = v) : retK 0 l (fun o es => o = .ret v ∧ es = []) .ret x := q_ret hv rfl hd rfl ⟨by rw [hu], rfl⟩
theorem rx0 {l : List RV} {u : V} {R : V → Prop} (hv : outV l x = u) (hd : zev l x = true) (hu : R u) : retK 0 l (fun o es => (∃ v, o = .ret v ∧ R v) ∧ es = []) .ret x := q_ret hv rfl hd rfl ⟨⟨_, rfl, hu⟩, rfl⟩
theorem re {A B : Prop} (hB : B) (hA : Keep B → A := by
  intro h
  (apply re0; (case hv => (first | ((conv => lhs; simp (config := {maxSteps := 1000000}) (disch := (first | exact dz | fail)) [zgU, zgT, zgS, zch, zgi, zdc, List.take_of_length_le, ↓List.map_cons, ↓List.map_nil, semM, zau, one1, zaw, strV, zaJ, zaf, zag, bnd, zaK, zaI, vb, ↓zaj, ↓zak, ↓zar, ↓zaq, ↓zap, ↓zas, ↓zaz, ↓zab, ↓zae, ↓zaa, ↓zac, ↓ev_t, ↓ev_c, *]) <;> rfl) | rfl)); (case hd => (simp (config := {maxSteps := 1000000}) (disch := (first | exact dz | fail)) [zfd, zfc, zfb, zcU, zgi, zdc, List.take_of_length_le, ↓List.map_cons, ↓List.map_nil, semM, zau, one1, zaw, strV, zaJ, zaf, zag, bnd, zaK, zaI, vb, ↓zaj, ↓zak, ↓zar, ↓zaq, ↓zap, ↓zas, ↓zaz, ↓zab, ↓zae, ↓zaa, ↓zac, ↓ev_t, ↓ev_c, *]; done)))
  exact h.out) : A := hA ⟨hB⟩
theorem rx {A B : Prop} (hB : B) (hA : Keep B → A := by
  intro h
  (apply rx0; (case hv => (first | ((conv => lhs; simp (config := {maxSteps := 1000000}) (disch := (first | exact dz | fail)) [zgU, zgT, zgS, zch, zgi, zdc, List.take_of_length_le, ↓List.map_cons, ↓List.map_nil, semM, zau, one1, zaw, strV, zaJ, zaf, zag, bnd, zaK, zaI, vb, ↓zaj, ↓zak, ↓zar, ↓zaq, ↓zap, ↓zas, ↓zaz, ↓zab, ↓zae, ↓zaa, ↓zac, ↓ev_t, ↓ev_c, *]) <;> rfl) | rfl)); (case hd => (simp (config := {maxSteps := 1000000}) (disch := (first | exact dz | fail)) [zfd, zfc, zfb, zcU, zgi, zdc, List.take_of_length_le, ↓List.map_cons, ↓List.map_nil, semM, zau, one1, zaw, strV, zaJ, zaf, zag, bnd, zaK, zaI, vb, ↓zaj, ↓zak, ↓zar, ↓zaq, ↓zap, ↓zas, ↓zaz, ↓zab, ↓zae, ↓zaa, ↓zac, ↓ev_t, ↓ev_c, *]; done)))
  exact h.out) : A := hA ⟨hB⟩
theorem ixl {A B : Prop} (hB : B) (hA : Keep B → A := by
  intro h
  (apply ixl0; (case hw => (first | exact zaC | (apply zaD; ((conv => lhs; whnf) <;> (simp (config := {maxSteps := 1000000}) (disch := (first | exact dz | fail)) [*]; done))))); (case hy => (conv => lhs; whnf)); (case hx => (first | ((conv => lhs; simp (config := {maxSteps := 1000000}) (disch := (first | exact dz | fail)) [List.take_of_length_le, ↓List.map_cons, ↓List.map_nil, semM, zau, one1, zaw, strV, zaJ, zaf, zag, bnd, zaK, zaI, vb, ↓zaj, ↓zak, ↓zar, ↓zaq, ↓zap, ↓zas, ↓zaz, ↓zab, ↓zae, ↓zaa, ↓zac, ↓ev_t, ↓ev_c, *]) <;> rfl) | rfl)); (case hi => (conv => lhs; whnf)); (case h0 => omega); (case h1 => omega); (case hz => (first | exact fun _ => rfl | (intro a; simp [sz_agg, *]; done))))
  exact h.out) : A := hA ⟨hB⟩
theorem ixs {A B : Prop} (hB : B) (hA : Keep B → A := by
  intro h
  (apply ixs0; (case hw => (first | exact zaC | (apply zaD; ((conv => lhs; whnf) <;> (simp (config := {maxSteps := 1000000}) (disch := (first | exact dz | fail)) [*]; done))))); (case hx => (conv => lhs; whnf)); (case hi => (conv => lhs; whnf)); (case h0 => omega); (case h1 => omega))
  exact h.out) : A := hA ⟨hB⟩
theorem sls {A B : Prop} (hB : B) (hA : Keep B → A := by
  intro h
  (apply sls0; (case hw => (first | exact zaC | (apply zaD; ((conv => lhs; whnf) <;> (simp (config := {maxSteps := 1000000}) (disch := (first | exact dz | fail)) [*]; done))))); (case hx => (conv => lhs; whnf)); (case hl => (first | exact .inl ⟨rfl, rfl⟩ | exact .inr ⟨_, _, _, rfl, by conv => lhs; whnf, by omega, rfl⟩)); (case hr => (first | exact .inl ⟨rfl, rfl⟩ | exact .inr ⟨_, _, _, rfl, by conv => lhs; whnf, by omega, rfl⟩)); (case h1 => omega); (case h2 => omega))
  exact h.out) : A := hA ⟨hB⟩
theorem sll {A B : Prop} (hB : B) (hA : Keep B → A := by
  intro h
  (apply sll0; (case hw => (first | exact zaC | (apply zaD; ((conv => lhs; whnf) <;> (simp (config := {maxSteps := 1000000}) (disch := (first | exact dz | fail)) [*]; done))))); (case hy => (conv => lhs; whnf)); (case hx => (first | ((conv => lhs; simp (config := {maxSteps := 1000000}) (disch := (first | exact dz | fail)) [List.take_of_length_le, ↓List.map_cons, ↓List.map_nil, semM, zau, one1, zaw, strV, zaJ, zaf, zag, bnd, zaK, zaI, vb, ↓zaj, ↓zak, ↓zar, ↓zaq, ↓zap, ↓zas, ↓zaz, ↓zab, ↓zae, ↓zaa, ↓zac, ↓ev_t, ↓ev_c, *]) <;> rfl) | rfl)); (case hl => (first | exact .inl ⟨rfl, rfl⟩ | exact .inr ⟨_, _, _, rfl, by conv => lhs; whnf, by omega, rfl⟩)); (case hr => (first | exact .inl ⟨rfl, rfl⟩ | exact .inr ⟨_, _, _, rfl, by conv => lhs; whnf, by omega, rfl⟩)); (case h1 => omega); (case h2 => omega); (case hz => (first | exact fun _ => rfl | (intro a; simp [sz_agg, *]; done))))
  exact h.out) : A := hA ⟨hB⟩
theorem cat {A B : Prop} (hB : B) (hA : Keep B → A := by
  intro h
  (apply cat0; (case hw => (first | exact zaC | (apply zaD; ((conv => lhs; whnf) <;> (simp (config := {maxSteps := 1000000}) (disch := (first | exact dz | fail)) [*]; done))))); (case hx => (conv => lhs; whnf)); (case hy => (conv => lhs; whnf)); (case hl => (first | omega | (simp only [List.length_append, List.length_cons, List.length_nil]; omega))))
  exact h.out) : A := hA ⟨hB⟩
theorem ci {A B C : Prop} (hB : B) (hC : C) (hA : Keep B → Keep C → A := by
  intro h h'
  apply ci0
  case ho => ((conv => lhs; whnf; try simp (config := {maxSteps := 1000000}) (disch := (first | exact dz | fail)) [*]) <;> rfl)
  case h1 => exact h.out
  case h2 => exact h'.out) : A := hA ⟨hB⟩ ⟨hC⟩
theorem gi {A B C : Prop} (hB : B) (hC : C) (hA : Keep B → Keep C → A := by
  intro h h'
  apply gi0
  case ho => ((conv => lhs; whnf; try simp (config := {maxSteps := 1000000}) (disch := (first | exact dz | fail)) [*]) <;> rfl)
  case h1 => exact h.out
  case h2 => exact h'.out) : A := hA ⟨hB⟩ ⟨hC⟩
theorem cr {A B R : Prop} (hc : R) (hB : B) (hA : R → Keep B → A := by
  intro hc h
  apply cr0
  (case hc => exact hc)
  (case hw => (first | exact zaC | (apply zaD; ((conv => lhs; whnf) <;> (simp (config := {maxSteps := 1000000}) (disch := (first | exact dz | fail)) [*]; done)))))
  (case hq => ((repeat (first | exact evl_n | (apply evl_c; (case h => (conv => lhs; whnf))))); done))
  (case hn => (first | ((conv => lhs; simp (config := {maxSteps := 1000000}) (disch := (first | exact dz | fail)) [List.take_of_length_le, ↓List.map_cons, ↓List.map_nil, semM, zau, one1, zaw, strV, zaJ, zaf, zag, bnd, zaK, zaI, vb, ↓zaj, ↓zak, ↓zar, ↓zaq, ↓zap, ↓zas, ↓zaz, ↓zab, ↓zae, ↓zaa, ↓zac, ↓ev_t, ↓ev_c, *]) <;> rfl) | (simp (config := {maxSteps := 1000000}) (disch := (first | exact dz | fail)) [List.take_of_length_le, ↓List.map_cons, ↓List.map_nil, semM, zau, one1, zaw, strV, zaJ, zaf, zag, bnd, zaK, zaI, vb, ↓zaj, ↓zak, ↓zar, ↓zaq, ↓zap, ↓zas, ↓zaz, ↓zab, ↓zae, ↓zaa, ↓zac, ↓ev_t, ↓ev_c, *]; first | rfl | exact ⟨rfl, rfl⟩ | exact ⟨rfl, rfl, rfl⟩ | exact ⟨rfl, rfl, rfl, rfl⟩ | done)))
  (case hon => (first | rfl | (simp (config := {maxSteps := 1000000}) (disch := (first | exact dz | fail)) [zcW, zdt, zdu, zds, zcn, zck, zdx, zdr, zci, zcj, zbt, zbL, zfZ, zbK, zdw, zf0, zdv, zcm, zcl, onS, *]; done)))
  exact h.out) : A := hA hc ⟨hB⟩
theorem cx {A B R : Prop} (hc : R) (hB : B) (hA : R → Keep B → A := by
  intro hc h
  apply cx0
  (case hc => exact hc)
  (case hw => (first | exact zaC | (apply zaD; ((conv => lhs; whnf) <;> (simp (config := {maxSteps := 1000000}) (disch := (first | exact dz | fail)) [*]; done)))))
  (case hq => ((repeat (first | exact evl_n | (apply evl_c; (case h => (conv => lhs; whnf))))); done))
  (case hn => (first | ((conv => lhs; simp (config := {maxSteps := 1000000}) (disch := (first | exact dz | fail)) [List.take_of_length_le, ↓List.map_cons, ↓List.map_nil, semM, zau, one1, zaw, strV, zaJ, zaf, zag, bnd, zaK, zaI, vb, ↓zaj, ↓zak, ↓zar, ↓zaq, ↓zap, ↓zas, ↓zaz, ↓zab, ↓zae, ↓zaa, ↓zac, ↓ev_t, ↓ev_c, *]) <;> rfl) | (simp (config := {maxSteps := 1000000}) (disch := (first | exact dz | fail)) [List.take_of_length_le, ↓List.map_cons, ↓List.map_nil, semM, zau, one1, zaw, strV, zaJ, zaf, zag, bnd, zaK, zaI, vb, ↓zaj, ↓zak, ↓zar, ↓zaq, ↓zap, ↓zas, ↓zaz, ↓zab, ↓zae, ↓zaa, ↓zac, ↓ev_t, ↓ev_c, *]; first | rfl | exact ⟨rfl, rfl⟩ | exact ⟨rfl, rfl, rfl⟩ | exact ⟨rfl, rfl, rfl, rfl⟩ | done)))
  (case hon => (first | rfl | (simp (config := {maxSteps := 1000000}) (disch := (first | exact dz | fail)) [zcW, zdt, zdu, zds, zcn, zck, zdx, zdr, zci, zcj, zbt, zbL, zfZ, zbK, zdw, zf0, zdv, zcm, zcl, onS, *]; done)))
  exact h.out) : A := hA hc ⟨hB⟩
theorem lp {σ : Type} {b : C} (live keep : List Nat) (ef : σ → List (Nat × V)) (sf : σ → List (Nat × Ent)) (J : σ → Prop) (μ : σ → Nat) (s0 : σ) (hJ : J s0)
  (hr : ∀ s, J s → wpC P G n0 Kp b (thenP (fun y' => ∃ s', J s' ∧ μ s' < μ s ∧ okScrub n0 live keep y' ∧ scrub live keep y' = mkX (ef s') (sf s')) QC) (mkX (ef s) (sf s))) (h0 : okScrub n0 live keep x) (h1 : scrub live keep x = mkX (ef s0) (sf s0)) : wpC P G n0 Kp (.loop b) QC x := by
 refine ziK live keep (fun y => ∃ s, J s ∧ y = mkX (ef s) (sf s)) (minM (fun s => mkX (ef s) (sf s)) J μ) h0 ⟨s0, hJ, h1⟩ ?_
 rintro y ⟨s, hs, rfl⟩
 obtain ⟨s1, h2, h3, h4, -⟩ := zff (mk := fun s => mkX (ef s) (sf s)) (μ := μ) hs
 try dsimp only at h3 h4
 rw [h4, h3]
 refine wpC_mono ?_ _ _ (hr s1 h2)
 rintro (_ | i | _) y' hy
 ·obtain ⟨s', h5, h6, h7, h8⟩ := hy
  refine ⟨h7, ⟨s', h5, h8⟩, ?_⟩
  rw [h8]
  obtain ⟨_, _, _, _, h9⟩ := zff (mk := fun s => mkX (ef s) (sf s)) (μ := μ) h5
  exact Nat.lt_of_le_of_lt h9 h6
 ·exact hy
 ·exact hy
theorem lpF {σ : Type} {b : C} (live keep : List Nat) (ef : σ → List (Nat × V)) (sf : σ → List (Nat × Ent)) (J : σ → Prop) (μ : σ → Nat) (s0 : σ) (hJ : J s0)
  (hr : ∀ s, J s → wpC P G n0 Kp b (thenP (fun y' => ∃ s', J s' ∧ μ s' < μ s ∧ okScrub n0 live keep (y'.frz true) ∧ scrub live keep (y'.frz true) = mkX (ef s') (sf s')) QC) (mkX (ef s) (sf s))) (h0 : okScrub n0 live keep (x.frz true)) (h1 : scrub live keep (x.frz true) = mkX (ef s0) (sf s0)) : wpC P G n0 Kp (.loop b) QC x := by
 refine c_loopF live keep (fun y => ∃ s, J s ∧ y = mkX (ef s) (sf s)) (minM (fun s => mkX (ef s) (sf s)) J μ) h0 ⟨s0, hJ, h1⟩ ?_
 rintro y ⟨s, hs, rfl⟩
 obtain ⟨s1, h2, h3, h4, -⟩ := zff (mk := fun s => mkX (ef s) (sf s)) (μ := μ) hs
 try dsimp only at h3 h4
 rw [h4, h3]
 refine wpC_mono ?_ _ _ (hr s1 h2)
 rintro (_ | i | _) y' hy
 ·obtain ⟨s', h5, h6, h7, h8⟩ := hy
  refine ⟨h7, ⟨s', h5, h8⟩, ?_⟩
  rw [h8]
  obtain ⟨_, _, _, _, h9⟩ := zff (mk := fun s => mkX (ef s) (sf s)) (μ := μ) h5
  exact Nat.lt_of_le_of_lt h9 h6
 ·exact hy
 ·exact hy
end
end Vm
namespace Vm
theorem ww {A B : Prop} (hB : B) (hA : Keep B → A := by
 intro h
 first | exact w1 h.out | exact w2 h.out | exact re h.out | exact rx h.out | exact sls h.out | exact sll h.out | exact cat h.out) : A := hA ⟨hB⟩
theorem cz {A B C : Prop} (hB : B) (hC : C) (hA : Keep B → Keep C → A := by
 intro h h'
 first
 | (apply ci0
    case ho => ((conv => lhs; whnf; try simp (config := {maxSteps := 1000000}) (disch := (first | exact dz | fail)) [*]) <;> rfl)
    case h1 => first | (intro hb; simp only [zb] at hb; revert hb; exact h.out) | exact h.out
    case h2 => first | (intro hb; simp only [zb] at hb; revert hb; exact h'.out) | exact h'.out)
 | (apply gi0
    case ho => ((conv => lhs; whnf; try simp (config := {maxSteps := 1000000}) (disch := (first | exact dz | fail)) [*]) <;> rfl)
    case h1 => first | (intro hb; simp only [zb] at hb; revert hb; exact h.out) | exact h.out
    case h2 => first | (intro hb; simp only [zb] at hb; revert hb; exact h'.out) | exact h'.out)) : A := hA ⟨hB⟩ ⟨hC⟩
end Vm

