/- Part of the proof: see the last text. -/
import Derived.Test.YtakegkongmnekaaGreatDoorP0
import Derived.Test.YtakegkongmnekaaGreatDoorP18
import Derived.Test.YtakegkongmnekaaGreatDoorP19
import Derived.Test.YtakegkongmnekaaGreatDoorP20
set_option maxRecDepth 20000
set_option linter.unusedVariables false
set_option linter.unusedSimpArgs false
namespace Vm
open Go Go.RowKit
section
variable {Z : Type}
def ckEs : List (Nat × Nat) → Nat → List Ent → Option Z → Option Z
 | [],_,_,A => A
 | (T,n) :: r,j,es,A => ckE T n (nth es j) (ckEs r (j + 1) es A)
def clM (c : Orc) (g : FuncId) (args : List V) (es : List Ent) (tn : List (Nat × Nat)) (Kp K : V → List Ent → Option Z) : Option Z := cal c g args es (fun v es => ckEs tn 0 es (K v es)) (fun v es => ckEs tn 0 es (Kp v es))
def dfr (o : Option (List Ent)) (tn : List (Nat × Nat)) (K : List Ent → Option Out) : Option Out := o.bind fun es => if es.length = tn.length then ckEs tn 0 es (K es) else none
@[simp] theorem ecell_b (T : Nat) (cs : List V) (j : Nat) : zaa (.blk T cs) j = cs.getD j .undef := rfl
@[simp] theorem nth_0 (a : Ent) (l : List Ent) : nth (a :: l) 0 = a := rfl
@[simp] theorem nth_s (a : Ent) (l : List Ent) (n : Nat) : nth (a :: l) (n + 1) = nth l n := rfl
@[simp] theorem ckEs_0 (j : Nat) (es : List Ent) (A : Option Z) : ckEs [] j es A = A := rfl
@[simp] theorem ckEs_s (T n : Nat) (r : List (Nat × Nat)) (j : Nat) (es : List Ent) (A : Option Z) : ckEs ((T,n) :: r) j es A = ckE T n (nth es j) (ckEs r (j + 1) es A) := rfl
theorem zq5 (T n : Nat) (cs : List V) (A : Option Z) (h1 : cs.length = n) (h2 : wfs cs = true) : ckE T n (.blk T cs) A = A := by simp only [ckE,h1,h2,and_self,if_true]
theorem clM_r {c : Orc} {g : FuncId} {args : List V} {es es' : List Ent} {v : V} (h : c g args es = some (.ret v,es')) (tn : List (Nat × Nat)) (Kp K : V → List Ent → Option Z) : clM c g args es tn Kp K = ckEs tn 0 es' (K v es') := by simp only [clM,cal,h]
theorem dfr_e (es : List Ent) (tn : List (Nat × Nat)) (K : List Ent → Option Out) (h : es.length = tn.length) : dfr (some es) tn K = ckEs tn 0 es (K es) := by
 show (if es.length = tn.length then _ else none) = _
 rw [if_pos h]
end
theorem Pro.phi_tds (p : Pro) : ∀ (k : Nat) (f : FuncId) (a : List V) (e : List Ent),Tds (fun n => p.phi n f a e) (p.phi k f a e)
 | 0,_,_,_ => fun _ h => by cases h
 | k + 1,f,a,e => by
  intro r h
  have key : Evt (fun n => p.step (p.phi n) (it n) f a e) r := by
   have h : p.step (p.phi k) (it k) f a e = some r := h
   unfold Pro.step at h ⊢
   cases hd : p.D f
   ·rw [hd] at h
    exact zrA (c0 := p.phi k) (lp0 := it k) (fun g a e => p.phi_tds k g a e) (fun Z F F0 hF l r h => zsL Z F F0 hF l r (lup_some.2 ⟨k,h⟩)) _ h
   ·rw [hd] at h
    exact p.tends _ _ (fun g a e => p.phi_tds k g a e) _ _ _ _ h
  obtain ⟨N,hN⟩ := key
  refine ⟨N + 1,fun n hn => ?_⟩
  obtain ⟨m,rfl⟩ : ∃ m,n = m + 1 := ⟨n - 1,by omega⟩
  exact hN m (by omega)
theorem Pro.ev_phi (p : Pro) (k : Nat) {f : FuncId} {a : List V} {e : List Ent} {r : Out} (h : p.phi k f a e = some r) : p.ev f a e = some r := p.ev_some.2 (p.phi_tds k f a e r h)
theorem Pro.ofN (p : Pro) {f : FuncId} {a : List V} {e : List Ent} {z : Out} (hd : p.D f = true) (h : p.B p.ev f a e = some z) : p.ev f a e = some z := by
 refine p.ev_step ?_
 unfold Pro.step
 rw [hd]
 exact h
structure Nv (P : Program) (G : Nat → V) where
 f : FuncId
 B : Orc → List V → List Ent → Option Out
 sound : ∀ c,Sound P G c → ∀ args ents o es,(∀ v ∈ args,argOk ents.length v) → (∀ e ∈ ents,wfE e) → B c args ents = some (o,es) → zck P G f args ents (fun o' es' => o' = o ∧ es' = es)
 tends : ∀ (c : Nat → Orc) (c0 : Orc),(∀ g a e,Tds (fun n => c n g a e) (c0 g a e)) → ∀ a e,Tds (fun n => B (c n) a e) (B c0 a e)
section
variable {P : Program} {G : Nat → V}
def nvD (L : List (Nv P G)) (f : FuncId) : Bool := L.any fun n => n.f == f
def nvB (L : List (Nv P G)) (c : Orc) (f : FuncId) (a : List V) (e : List Ent) : Option Out := match L.find? fun n => n.f == f with | some n => n.B c a e | none => none
def Pro.ofL (P : Program) (G : Nat → V) (A : FuncId → List (Nat × Nat) × List LA) (L : List (Nv P G)) : Pro where
 P := P
 G := G
 A := A
 D := nvD L
 B := nvB L
 sound c hc f _ args ents o es ha he h := by
  unfold nvB at h
  split at h
  ·rename_i n hn
   have hf : n.f = f := by simpa using List.find?_some hn
   rw [← hf]
   exact n.sound c hc args ents o es ha he h
  ·cases h
 tends c c0 hc f a e := by
  unfold nvB
  split
  ·rename_i n _;exact n.tends c c0 hc a e
  ·exact za1
def zd8 (o : Option V) : Option Out := match o with | some v => some (.ret v,[]) | none => none
def Nv.pure (f : FuncId) (ans : List V → Option V) (h : ∀ args v,ans args = some v → zck P G f args [] fun o es => o = .ret v ∧ es = []) : Nv P G where
 f := f
 B _ a e := match e with | [] => zd8 (ans a) | _ => none
 sound c _ args ents o es _ _ hb := by
  split at hb <;> first | (cases hb;done) | skip
  unfold zd8 at hb
  split at hb <;> first | (cases hb;done) | skip
  rename_i v hv
  cases hb
  exact h args v hv
 tends c c0 _ a e := fun _ hr => ⟨0,fun _ _ => hr⟩
def Nv.fd (f : FuncId) (ids : List Nat) (T : List (Nat × Nat)) : Nv P G where
 f := f
 B c a e := match e with | [] => evFD P G c ids T f (a.map argR) | _ => none
 sound c hc args ents o es ha _ hb := by
  split at hb <;> first | (cases hb;done) | skip
  refine (evFD_ok hc ha hb).mono fun o' es' h => ?_
  cases h
  exact ⟨rfl,rfl⟩
 tends c c0 hc a e := by
  cases e with
  | nil => exact tds_evFD hc
  | cons _ _ => exact za1
end
end Vm
namespace Go.Proofs.YtakegkongmnekaaGreatDoor
open Go.RowKit
open Vm
def tokM (t : Lx.TA) : Vm.V := .agg [.int .i64 t.1.kind,.str t.1.text,.int .i64 t.1.val.1,.int .i64 t.1.val.2.1,.str t.1.val.2.2,.int .i64 (t.2 : Int)]
def Ret (P : Program) (G : Nat → Vm.V) (f : FuncId) (args : List Vm.V) (v : Vm.V) : Prop := zck P G f args [] fun o es => o = .ret v ∧ es = []
theorem zbz {P : Program} {G : Nat → Vm.V} {f : FuncId} {args : List Vm.V} {R : POut → Prop} (hen : zf1 P f = true) (hd : args.all V.data = true)
  (h : ∀ (w : World) (A : Nat → Nat → Prop) (vals : Array Value),(∀ b o,A b o → b < w.heap.size) → RepL w A args vals.toList → Calls P f vals w fun e w' => Below w.heap.size w w' ∧ ∃ o,R o ∧ OutRep w' A o e) : zck P G f args [] fun o es => R o ∧ es = [] := by
 refine ⟨hen,fun w H A vals m hv => Calls.mono (h w A vals m.al (zgc hv hd)) fun e w' ⟨hb,o,hR,ho⟩ => ?_⟩
 exact ⟨o,[],H,A,⟨hR,rfl⟩,rfl,fun e he => by simp at he,m.below hb,ho⟩
theorem zo9 {w : World} {A : Nat → Nat → Prop} : ∀ l : List Lx.TA,RepE w A 6 (l.map tokM) (l.flatMap zgm)
 | [] => .nil 6
 | t :: l => by
  rw [List.map_cons,List.flatMap_cons]
  refine .cons 6 _ _ _ _ rfl (.agg _ _ rfl ?_) (zo9 l)
  exact .cons _ _ _ _ (.int _ _) (.cons _ _ _ _ (.str _) (.cons _ _ _ _ (.int _ _) (.cons _ _ _ _ (.int _ _) (.cons _ _ _ _ (.str _) (.cons _ _ _ _ (.int _ _) .nil)))))
theorem own_rep {w : World} {A : Nat → Nat → Prop} {base T : Nat} {v : Value} {l : List Lx.TA} (h : w.ownsRow base T 6 v l.length (l.flatMap zgm)) (hA : ∀ b o,A b o → b < base) : RepV w A (.list (l.map tokM)) v := by
 obtain ⟨h0,h | ⟨g,cap,cur,h1,h2,h3,h4,h5,h6,h7⟩⟩ := h
 ·obtain ⟨rfl,hl⟩ := h
  obtain rfl : l = [] := List.eq_nil_of_length_eq_zero hl
  exact .nil _ _
 ·subst h1
  cases l with
  | nil => exact .nil _ _
  | cons t l =>
   have := RepV.list (w := w) (A := A) ((t :: l).map tokM) 6 g 0 cap ((t :: l).flatMap zgm) (by simp) (zo9 _) ⟨?_,fun j u hu => ⟨?_,fun hAA => by have := hA _ _ hAA;omega⟩⟩ (by simpa using h4) h5
   ·simpa using this
   ·exact (Array.getElem?_eq_some_iff.1 h3).1
   ·rw [Nat.zero_add]
    rw [← h7,List.getElem?_take] at hu
    split at hu
    ·simp only [World.cell?,h3]
     simpa using hu
    ·cases hu
def zjm (s : List UInt8) : Vm.V := .tup [.list ((Lx.scan s).1.map tokM),.int .i64 ((Lx.scan s).2.1 : Int),.int .i64 (Lx.scan s).2.2]
theorem zpp {w w' : World} {A : Nat → Nat → Prop} {s : List UInt8} {e : Ending} (hA : ∀ b o,A b o → b < w.heap.size) (h : scanE w (Lx.scan s) e w') : Below w.heap.size w w' ∧ ∃ o,o = .ret (zjm s) ∧ OutRep w' A o e := by
 obtain ⟨v,rfl,h1,h2⟩ := h
 exact ⟨h2,_,rfl,_,rfl,.tup _ _ (.cons _ _ _ _ (own_rep h1 hA) (.cons _ _ _ _ (.int _ _) (.cons _ _ _ _ (.int _ _) .nil)))⟩
theorem n_Scan {G : Nat → Vm.V} {s : List UInt8} (hs : s.length ≤ 1000000) : zck Tryz.prog G 17 [.str s] [] fun o es => o = .ret (zjm s) ∧ es = [] := by
 refine zbz (by kernel_rfl) rfl fun w A vals hA hv => ?_
 rw [zdN hv]
 refine Calls.mono (scan_any (Lx.bs s) w (by rw [Lx.zas];omega)) fun e w' h => ?_
 rw [Lx.za9] at h
 exact zpp hA h
theorem n_rScan {G : Nat → Vm.V} {s : List UInt8} (hs : s.length ≤ 1000000) : zck Tryz.prog G 20 [.str s] [] fun o es => o = .ret (zjm s) ∧ es = [] := by
 refine zbz (by kernel_rfl) rfl fun w A vals hA hv => ?_
 rw [zdN hv]
 refine Calls.mono (zrV (Lx.bs s) w (by rw [Lx.zas];omega)) fun e w' h => ?_
 rw [Lx.za9] at h
 exact zpp hA h
end Go.Proofs.YtakegkongmnekaaGreatDoor
namespace Ox
open Lx
abbrev S := List UInt8
structure Key where
 col : Int
 coll : Int
 desc : Bool
deriving DecidableEq
structure Op where
 code : Int
 p1 : Int
 p2 : Int
 p3 : Int
 vk : Int
 vn : Int
 vs : S
 keys : List Key
 name : S
deriving DecidableEq
def names : List S := [[104,97,108,116],[106,117,109,112],[105,102],[105,102,110,111,116],[118,97,108,117,101],[99,111,112,121],[116,97,98,108,101],[105,110,100,101,120],[102,105,114,115,116],[110,101,120,116],[115,101,101,107,103,101],[115,101,101,107,103,116],[115,116,111,112,103,116],[115,116,111,112,103,101],[99,111,108],[102,105,110,100],[117,110],[98,105,110],[102,110],[99,97,115,116],[114,111,119],[115,111,114,116],[115,111,114,116,112,117,116],[115,111,114,116,116,111,112],[115,111,114,116,110,101,120,116],[115,111,114,116,99,111,108],[115,101,116],[115,101,101,110],[104,97,115],[97,103,103],[97,103,103,97,100,100],[97,103,103,101,110,100],[99,111,117,110,116],[115,97,109,101]]
def forms : List S := [[46,46,46,46,46,46],[46,112,46,46,46,46],[114,112,46,46,46,46],[114,112,46,46,46,46],[46,114,46,118,46,46],[114,114,46,46,46,46],[116,46,46,46,110,46],[116,46,46,46,110,46],[116,112,46,46,46,46],[116,112,46,46,46,46],[116,112,114,109,46,46],[116,112,114,109,46,46],[116,112,114,109,46,46],[116,112,114,109,46,46],[116,99,114,46,46,46],[116,112,114,46,46,46],[114,114,46,46,117,46],[114,114,114,46,98,46],[114,114,109,46,110,46],[114,114,46,46,99,46],[114,109,46,46,46,46],[116,46,46,46,46,107],[116,114,109,46,46,46],[116,112,46,46,46,46],[116,112,46,46,46,46],[116,99,114,46,46,46],[116,46,46,46,46,46],[116,112,114,109,46,46],[116,112,114,109,46,46],[116,98,46,46,97,46],[116,114,46,46,46,46],[116,114,46,46,46,46],[114,112,46,46,46,46],[114,112,114,109,46,46]]
def shapes : List S := [[46,46,46,46,46,46],[46,106,46,46,46,46],[114,106,46,46,46,46],[114,106,46,46,46,46],[46,114,46,118,46,46],[114,114,46,46,46,46],[99,46,46,46,116,46],[99,46,46,46,116,46],[99,106,46,46,46,46],[99,106,46,46,46,46],[99,106,114,109,46,46],[99,106,114,109,46,46],[99,106,114,109,46,46],[99,106,114,109,46,46],[99,107,114,46,46,46],[99,106,114,46,46,46],[114,114,46,46,117,46],[114,114,114,46,98,46],[114,114,110,46,102,46],[114,114,46,46,121,46],[114,110,46,46,46,46],[99,46,46,46,46,107],[99,114,110,46,46,46],[99,106,46,46,46,46],[99,106,46,46,46,46],[99,107,114,46,46,46],[99,46,46,46,46,46],[99,106,114,109,46,46],[99,106,114,109,46,46],[99,98,46,46,97,46],[99,114,46,46,46,46],[99,114,46,46,46,46],[114,106,46,46,46,46],[114,106,114,109,46,46]]
def form (c : Int) : S := (forms[c.toNat]?).getD []
def zrL (c : Int) : S := (shapes[c.toNat]?).getD []
def nameOf (c : Int) : S := if decide (c < 0) || decide (33 < c) then [] else (names[c.toNat]?).getD []
def at_ (f : S) (i : Nat) : UInt8 := (f[i]?).getD 0
def zrh (k : UInt8) (n many : Int) : Bool :=
 if k.toNat = 114 then decide (0 ≤ n) && decide (n < 1024)
 else if k.toNat = 112 then decide (0 ≤ n) && decide (n ≤ many)
 else if k.toNat = 116 ∨ k.toNat = 99 then decide (0 ≤ n) && decide (n < 64)
 else if k.toNat = 109 then decide (0 ≤ n) && decide (n ≤ 1024)
 else if k.toNat = 98 then decide (n = 0) || decide (n = 1)
 else decide (n = 0)
def valued (k : UInt8) (vk vn : Int) (vs : S) : Bool :=
 if k.toNat = 118 then !(decide (vk < 0) || decide (3 < vk) || (decide (vk ≠ 1) && decide (vn ≠ 0)) || (decide (vk < 2) && decide (vs ≠ []))) && decide (vs.length ≤ 4096)
 else if k.toNat = 109 then decide (vk = 1) && decide (vs = []) && decide (1 ≤ vn) && decide (vn ≤ 1024)
 else decide (vk = 0) && decide (vn = 0) && decide (vs = [])
def opsU : List S := [[45],[43],[110,111,116]]
def opsB : List S := [[124,124],[42],[47],[37],[43],[45],[61],[60,62],[60],[60,61],[62],[62,61],[97,110,100],[111,114]]
def opsC : List S := [[105,110,116],[116,101,120,116],[98,108,111,98]]
def opsA : List S := [[99,111,117,110,116],[115,117,109],[109,105,110],[109,97,120],[97,118,103],[116,111,116,97,108]]
def named (k : UInt8) (s : S) : Bool :=
 if k.toNat = 110 then zfC s
 else if k.toNat = 117 then opsU.contains s
 else if k.toNat = 98 then opsB.contains s
 else if k.toNat = 99 then opsC.contains s
 else if k.toNat = 97 then opsA.contains s
 else s.isEmpty
def keyOk (k : Key) : Bool := decide (0 ≤ k.col) && decide (k.col < 64) && decide (0 ≤ k.coll) && decide (k.coll ≤ 1)
def keyed (k : UInt8) (l : List Key) : Bool :=
 if k.toNat = 107 then l.all keyOk && decide (l.length ≤ 64) else decide (l.length = 0)
def sevC (c : Int) : Bool := decide (c = 10) || decide (c = 11) || decide (c = 12) || decide (c = 13) || decide (c = 27) || decide (c = 28)
def zrM (o : Op) : List Int × Int :=
 if sevC o.code then ([o.p3],o.vn)
 else if o.code = 33 then ([o.p1,o.p3],o.vn)
 else if o.code = 18 then ([o.p1],o.p3)
 else if o.code = 20 then ([o.p1],o.p2)
 else if o.code = 22 then ([o.p2],o.p3)
 else ([],0)
def formed (o : Op) (many : Int) : Bool :=
 zrh (at_ (form o.code) 0) o.p1 many && zrh (at_ (form o.code) 1) o.p2 many && zrh (at_ (form o.code) 2) o.p3 many &&
 valued (at_ (form o.code) 3) o.vk o.vn o.vs && named (at_ (form o.code) 4) o.name && keyed (at_ (form o.code) 5) o.keys
def coded (o : Op) : Bool := decide (0 ≤ o.code) && decide (o.code ≤ 33)
def right (o : Op) (many : Int) : Bool := coded o && formed o many && (zrM o).1.all (fun r => decide (r + (zrM o).2 ≤ 1024))
def wrongL (many : Int) : List Op → Int → Int
 | [],_ => -1
 | o :: r,i => if right o many then wrongL many r (i + 1) else i
def wrong (l : List Op) : Int := wrongL l.length l 0
def check (l : List Op) : Int := if 8192 < l.length then 3 else if 0 ≤ wrong l then 1 else 0
def numN (m : Nat) : S := if m < 10 then [UInt8.ofNat (48 + m)] else numN (m / 10) ++ [UInt8.ofNat (48 + m % 10)]
def num (n : Int) : S := if n < 0 then 45 :: numN n.natAbs else numN n.natAbs
def hexD (n : Nat) : UInt8 := (hexs[n]?).getD 0
def hex : S → S
 | [] => []
 | c :: r => hexD (c.toNat / 16) :: hexD (c.toNat % 16) :: hex r
def valS (vk vn : Int) (vs : S) : S :=
 if vk = 1 then num vn else if vk = 2 then [116,39] ++ hex vs ++ [39] else if vk = 3 then [120,39] ++ hex vs ++ [39] else [110,117,108,108]
def keyS (k : Key) : S := num k.col ++ (if k.desc then [100] else [97]) ++ (if k.coll = 1 then [110] else [98])
def partN (c : UInt8) (n : Int) : S := if c.toNat = 46 then [] else 32 :: num n
def partV (c : UInt8) (vk vn : Int) (vs : S) : S := if c.toNat = 46 then [] else 32 :: valS vk vn vs
def partS (c : UInt8) (s : S) : S := if c.toNat = 46 then [] else 32 :: s
def keysS (l : List Key) : S := l.flatMap fun k => 32 :: keyS k
def line (o : Op) : S :=
 (names[o.code.toNat]?).getD [] ++ partN (at_ (form o.code) 0) o.p1 ++ partN (at_ (form o.code) 1) o.p2 ++ partN (at_ (form o.code) 2) o.p3 ++
 partV (at_ (form o.code) 3) o.vk o.vn o.vs ++ partS (at_ (form o.code) 4) o.name ++ keysS o.keys
def lines (l : List Op) : S := l.flatMap fun o => line o ++ [10]
def print (l : List Op) : S := if check l = 0 then lines l else []
def consH (p : S) : List S → List S
 | [] => [p]
 | h :: t => (p ++ h) :: t
def split (c : UInt8) : S → List S
 | [] => [[]]
 | x :: r => if x == c then [] :: split c r else consH [x] (split c r)
def zpG (s : S) : Int × Bool := ((read s).1,decide ((read s).2 = 0) && decide (0 ≤ (read s).1) && decide ((read s).1 ≤ 999999999))
def unhexP : S → Option S
 | [] => some []
 | [_] => some []
 | a :: b :: r => match rnib a,rnib b,unhexP r with
  | some x,some y,some t => some (UInt8.ofNat (16 * x + y) :: t)
  | _,_,_ => none
def unhex (s : S) : S × Bool := match unhexP s with
 | none => ([],false)
 | some t => (t,decide (s.length % 2 = 0))
abbrev V := Int × Int × S
def unval (s : S) : V × Bool :=
 if s = [110,117,108,108] then ((0,0,[]),true)
 else if decide (3 ≤ s.length) && at_ s 1 == 39 && at_ s (s.length - 1) == 39 && (at_ s 0 == 116 || at_ s 0 == 120) then
  ((if at_ s 0 == 120 then 3 else 2,0,(unhex ((s.drop 2).take (s.length - 3))).1),(unhex ((s.drop 2).take (s.length - 3))).2)
 else ((1,(read s).1,[]),decide ((read s).2 = 0))
def unkeyK (s : S) : Key := ⟨(zpG (s.take (s.length - 2))).1,if at_ s (s.length - 1) == 110 then 1 else 0,at_ s (s.length - 2) == 100⟩
def unkey (s : S) : Key × Bool :=
 if s.length < 3 then (⟨0,0,false⟩,false) else (unkeyK s,(zpG (s.take (s.length - 2))).2 && keyS (unkeyK s) == s)
abbrev W := List S × Bool
def nxS (w : W) : S := w.1.headD []
def nxW (w : W) : W := match w.1 with | [] => ([],false) | _ :: r => (r,w.2)
def numSt (c : UInt8) (p : Int) (w : W) : Int × W :=
 if c.toNat = 46 then (p,w) else ((zpG (nxS w)).1,((nxW w).1,(nxW w).2 && (zpG (nxS w)).2))
def valOk (c : UInt8) (v : V × Bool) : Bool := if c.toNat = 109 then v.2 && decide (v.1.1 = 1) && decide (0 ≤ v.1.2.1) && decide (v.1.2.1 ≤ 999999999) else v.2
def valSt (c : UInt8) (v : V) (w : W) : V × W :=
 if c.toNat = 46 then (v,w) else ((unval (nxS w)).1,((nxW w).1,(nxW w).2 && valOk c (unval (nxS w))))
def nameSt (c : UInt8) (s : S) (w : W) : S × W :=
 if c.toNat = 46 then (s,w) else (nxS w,((nxW w).1,(nxW w).2 && named c (nxS w)))
def keySt : List S → Bool → List Key → List Key × Bool
 | [],ok,acc => (acc,ok)
 | s :: r,ok,acc => keySt r (ok && (unkey s).2) (acc ++ [(unkey s).1])
def keysSt (c : UInt8) (l : List Key) (w : W) : List Key × W :=
 if c.toNat = 107 then ((keySt w.1 w.2 l).1,([],(keySt w.1 w.2 l).2)) else (l,w)
def fill (o : Op) (w : W) : Op × W :=
 let f := form o.code
 let a := numSt (at_ f 0) o.p1 w
 let b := numSt (at_ f 1) o.p2 a.2
 let c := numSt (at_ f 2) o.p3 b.2
 let d := valSt (at_ f 3) (o.vk,o.vn,o.vs) c.2
 let e := nameSt (at_ f 4) o.name d.2
 let k := keysSt (at_ f 5) o.keys e.2
 (⟨o.code,a.1,b.1,c.1,d.1.1,d.1.2.1,d.1.2.2,k.1,e.1⟩,k.2)
abbrev PR := List Op × Int × Int
def fin (l : List Op) : PR := if 8192 < l.length then ([],8192,3) else if 0 ≤ wrong l then ([],wrong l,1) else (l,0,0)
end Ox
