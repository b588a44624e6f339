/- Part of the proof: see the last text. -/
import Derived.Test.YtakegkongmnekaaDoorP0
import Derived.Test.YtakegkongmnekaaDoorP18
import Derived.Test.YtakegkongmnekaaDoorP19
import Derived.Test.YtakegkongmnekaaDoorP20
import Derived.Test.YtakegkongmnekaaDoorP21
import Derived.Test.YtakegkongmnekaaDoorP22
set_option maxRecDepth 20000
set_option linter.unusedVariables false
set_option linter.unusedSimpArgs false
set_option linter.unusedSectionVars false
namespace Go.Proofs.YtakegkongmnekaaDoor
open Go.RowKit
open Vm Go.Shelf
def shRen : Go.Shelf.Ren := ⟨fun n => match n with | 138 => 58 | 143 => 59 | 154 => 48 | 155 => 33 | 156 => 35 | 165 => 49 | 166 => 50 | 169 => 51 | 195 => 72 | 197 => 60 | 217 => 84 | 218 => 73 | 219 => 74 | 224 => 86 | 225 => 85 | 240 => 61 | 241 => 62 | 260 => 75 | 266 => 91 | 267 => 87 | 276 => 76 | 277 => 77 | 314 => 92 | _ => 0,fun n => match n with | 0 => 0 | 3 => 3 | 4 => 4 | 5 => 5 | 9 => 9 | 20 => 20 | 21 => 21 | 31 => 63 | 37 => 50 | 46 => 77 | 51 => 114 | 70 => 78 | 72 => 80 | 75 => 83 | 76 => 84 | 80 => 86 | 105 => 93 | 119 => 110 | 127 => 95 | 138 => 112 | 139 => 113 | 146 => 115 | 164 => 102 | _ => 0,fun n => match n with | 1 => 0 | 3 => 1 | 4 => 2 | _ => 0⟩
theorem zf6 : Lays.n156 Tryd.prog shRen := {
 mixed := by kernel_rfl
 f156 := by kernel_rfl
 f165 := by kernel_rfl
 f166 := by kernel_rfl
 f169 := by kernel_rfl
 f240 := by kernel_rfl
 f241 := by kernel_rfl
 f276 := by kernel_rfl
 f277 := by kernel_rfl
 t0 := by kernel_rfl
 a0 := fun _ => by kernel_rfl
 z0 := fun _ => by kernel_rfl
 v0 := fun _ => by kernel_rfl
 t3 := by kernel_rfl
 a3 := fun _ => by kernel_rfl
 z3 := fun _ => by kernel_rfl
 v3 := fun _ => by kernel_rfl
 t4 := by kernel_rfl
 a4 := fun _ => by kernel_rfl
 z4 := fun _ => by kernel_rfl
 v4 := fun _ => by kernel_rfl
 t9 := by kernel_rfl
 a9 := fun _ => by kernel_rfl
 z9 := fun _ => by kernel_rfl
 v9 := fun _ => by kernel_rfl
 t20 := by kernel_rfl
 a20 := fun _ => by kernel_rfl
 z20 := fun _ => by kernel_rfl
 v20 := fun _ => by kernel_rfl
 t31 := by kernel_rfl
 a31 := fun _ => by kernel_rfl
 z31 := fun _ => by kernel_rfl
 v31 := fun _ => by kernel_rfl
 t37 := by kernel_rfl
 a37 := fun _ => by kernel_rfl
 z37 := fun _ => by kernel_rfl
 v37 := fun _ => by kernel_rfl
 t70 := by kernel_rfl
 a70 := fun _ => by kernel_rfl
 z70 := fun _ => by kernel_rfl
 v70 := fun _ => by kernel_rfl
 t72 := by kernel_rfl
 a72 := fun _ => by kernel_rfl
 z72 := fun _ => by kernel_rfl
 v72 := fun _ => by kernel_rfl
 t75 := by kernel_rfl
 a75 := fun _ => by kernel_rfl
 z75 := fun _ => by kernel_rfl
 v75 := fun _ => by kernel_rfl
 t76 := by kernel_rfl
 a76 := fun _ => by kernel_rfl
 z76 := fun _ => by kernel_rfl
 v76 := fun _ => by kernel_rfl
 t127 := by kernel_rfl
 a127 := fun _ => by kernel_rfl
 z127 := fun _ => by kernel_rfl
 v127 := fun _ => by kernel_rfl
 t164 := by kernel_rfl
 a164 := fun _ => by kernel_rfl
 z164 := fun _ => by kernel_rfl
 v164 := fun _ => by kernel_rfl }
theorem lay_n155 : Lays.n155 Tryd.prog shRen := {
 mixed := by kernel_rfl
 f138 := by kernel_rfl
 f143 := by kernel_rfl
 f154 := by kernel_rfl
 f155 := by kernel_rfl
 f165 := by kernel_rfl
 f166 := by kernel_rfl
 f169 := by kernel_rfl
 f195 := by kernel_rfl
 f197 := by kernel_rfl
 f217 := by kernel_rfl
 f218 := by kernel_rfl
 f219 := by kernel_rfl
 f224 := by kernel_rfl
 f225 := by kernel_rfl
 f240 := by kernel_rfl
 f241 := by kernel_rfl
 f260 := by kernel_rfl
 f266 := by kernel_rfl
 f267 := by kernel_rfl
 f276 := by kernel_rfl
 f277 := by kernel_rfl
 f314 := by kernel_rfl
 t0 := by kernel_rfl
 a0 := fun _ => by kernel_rfl
 z0 := fun _ => by kernel_rfl
 v0 := fun _ => by kernel_rfl
 t3 := by kernel_rfl
 a3 := fun _ => by kernel_rfl
 z3 := fun _ => by kernel_rfl
 v3 := fun _ => by kernel_rfl
 t4 := by kernel_rfl
 a4 := fun _ => by kernel_rfl
 z4 := fun _ => by kernel_rfl
 v4 := fun _ => by kernel_rfl
 t5 := by kernel_rfl
 a5 := fun _ => by kernel_rfl
 z5 := fun _ => by kernel_rfl
 v5 := fun _ => by kernel_rfl
 t9 := by kernel_rfl
 a9 := fun _ => by kernel_rfl
 z9 := fun _ => by kernel_rfl
 v9 := fun _ => by kernel_rfl
 t20 := by kernel_rfl
 a20 := fun _ => by kernel_rfl
 z20 := fun _ => by kernel_rfl
 v20 := fun _ => by kernel_rfl
 t21 := by kernel_rfl
 a21 := fun _ => by kernel_rfl
 z21 := fun _ => by kernel_rfl
 v21 := fun _ => by kernel_rfl
 t37 := by kernel_rfl
 a37 := fun _ => by kernel_rfl
 z37 := fun _ => by kernel_rfl
 v37 := fun _ => by kernel_rfl
 t46 := by kernel_rfl
 a46 := fun _ => by kernel_rfl
 z46 := fun _ => by kernel_rfl
 v46 := fun _ => by kernel_rfl
 t51 := by kernel_rfl
 a51 := fun _ => by kernel_rfl
 z51 := fun _ => by kernel_rfl
 v51 := fun _ => by kernel_rfl
 t70 := by kernel_rfl
 a70 := fun _ => by kernel_rfl
 z70 := fun _ => by kernel_rfl
 v70 := fun _ => by kernel_rfl
 t72 := by kernel_rfl
 a72 := fun _ => by kernel_rfl
 z72 := fun _ => by kernel_rfl
 v72 := fun _ => by kernel_rfl
 t75 := by kernel_rfl
 a75 := fun _ => by kernel_rfl
 z75 := fun _ => by kernel_rfl
 v75 := fun _ => by kernel_rfl
 t76 := by kernel_rfl
 a76 := fun _ => by kernel_rfl
 z76 := fun _ => by kernel_rfl
 v76 := fun _ => by kernel_rfl
 t105 := by kernel_rfl
 a105 := fun _ => by kernel_rfl
 z105 := fun _ => by kernel_rfl
 v105 := fun _ => by kernel_rfl
 t119 := by kernel_rfl
 a119 := fun _ => by kernel_rfl
 z119 := fun _ => by kernel_rfl
 t127 := by kernel_rfl
 a127 := fun _ => by kernel_rfl
 z127 := fun _ => by kernel_rfl
 v127 := fun _ => by kernel_rfl
 t138 := by kernel_rfl
 a138 := fun _ => by kernel_rfl
 z138 := fun _ => by kernel_rfl
 v138 := fun _ => by kernel_rfl
 t139 := by kernel_rfl
 a139 := fun _ => by kernel_rfl
 z139 := fun _ => by kernel_rfl
 v139 := fun _ => by kernel_rfl
 t146 := by kernel_rfl
 a146 := fun _ => by kernel_rfl
 z146 := fun _ => by kernel_rfl
 v146 := fun _ => by kernel_rfl
 t164 := by kernel_rfl
 a164 := fun _ => by kernel_rfl
 z164 := fun _ => by kernel_rfl
 v164 := fun _ => by kernel_rfl
 g1 := by kernel_rfl
 g3 := by kernel_rfl
 g4 := by kernel_rfl }
theorem zdQ : Builder.Extra Tryd.prog shRen := {
 sizeBuilder := by kernel_rfl
 liesBuilder := by kernel_rfl
 t5 := by kernel_rfl
 a5 := fun _ => by kernel_rfl
 z5 := fun _ => by kernel_rfl
 v5 := fun _ => by kernel_rfl
 infoByte := by kernel_rfl
 cellsByte := by kernel_rfl
 sizeByte := by kernel_rfl
 neB5 := by decide }
theorem zdN {P : Program} {G : Nat → Vm.V} {f : FuncId} {args : List Vm.V} {R : POut → Prop} (hen : zcl P f = true) (hd : args.all V.data = true)
  (h : ∀ (w : World) (A : Nat → Nat → Prop) (vals : Array Value),(∀ b o,A b o → b < w.heap.size) → RepL w A args vals.toList → (∀ g,G g = .any ∨ RepV w A (G g) (.pointer (some ⟨g,0,none⟩))) → Calls P f vals w fun e w' => Below w.heap.size w w' ∧ ∃ o,R o ∧ OutRep w' A o e) : zaR P G f args [] fun o es => R o ∧ es = [] := by
 refine ⟨hen,fun w H A vals m hv => Calls.mono (h w A vals m.al (zcq hv hd) m.glo) fun e w' ⟨hb,o,hR,ho⟩ => ?_⟩
 exact ⟨o,[],H,A,⟨hR,rfl⟩,rfl,fun e he => by simp at he,m.below hb,ho⟩
theorem repL_2s {w : World} {A : Nat → Nat → Prop} {x : Vm.V} {s : List UInt8} {vals : Array Value} (h : RepL w A [x,.str s] vals.toList) : ∃ v,vals = #[v,.string (Lx.bs s)] ∧ RepV w A x v := by
 obtain ⟨l⟩ := vals
 cases h with
 | cons _ _ v vs h1 h2 =>
  cases h2 with
  | cons _ _ v' vs' h3 h4 =>
   cases h3
   cases h4
   exact ⟨v,rfl,h1⟩
theorem repL_3s {w : World} {A : Nat → Nat → Prop} {a b c : List UInt8} {vals : Array Value} (h : RepL w A [.str a,.str b,.str c] vals.toList) : vals = #[.string (Lx.bs a),.string (Lx.bs b),.string (Lx.bs c)] := by
 obtain ⟨l⟩ := vals
 cases h with
 | cons _ _ v vs h1 h2 =>
  cases h2 with
  | cons _ _ v' vs' h3 h4 =>
   cases h4 with
   | cons _ _ v'' vs'' h5 h6 =>
    cases h1
    cases h3
    cases h5
    cases h6
    rfl
theorem zeV {w : World} {A : Nat → Nat → Prop} : ∀ {xs : List (List UInt8)} {z : Nat} {vs : List Value},RepE w A z (xs.map Vm.V.str) vs → vs = xs.map fun s => Value.string (Lx.bs s)
 | [],z,vs,h => by cases h;rfl
 | x :: xs,z,vs,h => by
  cases h with
  | cons _ _ _ us ws h0 h1 h2 =>
   cases h1 with
   | one _ v h3 h4 =>
    cases h4
    rw [zeV h2]
    rfl
theorem zix (xs : List (List UInt8)) (sep : List UInt8) : Lib.join ((xs.map Lx.bs).map (·.data.toList)) (Lx.bs sep).data.toList = Lib.join xs sep := by
 have e : (xs.map Lx.bs).map (·.data.toList) = xs := by
  rw [List.map_map]
  conv => rhs;rw [← List.map_id xs]
  exact List.map_congr_left fun x _ => Lx.zaN x
 rw [e,show (Lx.bs sep).data.toList = sep from Lx.zaN sep]
theorem bs_join (xs : List (List UInt8)) (sep : List UInt8) : (⟨(Lib.join ((xs.map Lx.bs).map (·.data.toList)) (Lx.bs sep).data.toList).toArray⟩ : ByteArray) = Lx.bs (Lib.join xs sep) := by
 rw [zix];rfl
theorem zj5 {w w' : World} {A : Nat → Nat → Prop} {f : FuncId} {vals : Array Value} {e : Ending} {t : List UInt8} {b : ByteArray} (hb : b = Lx.bs t) (h : e = .returned (.string b) ∧ Below w.heap.size w w') : Below w.heap.size w w' ∧ ∃ o,o = POut.ret (.str t) ∧ OutRep w' A o e := by
 obtain ⟨rfl,h2⟩ := h
 subst hb
 exact ⟨h2,_,rfl,_,rfl,.str t⟩
theorem m_Join {G : Nat → Vm.V} {xs : List (List UInt8)} {sep : List UInt8} (hN : xs.length ≤ 1000000) (h : (Lib.join xs sep).length ≤ 1000000000) : Ret Tryd.prog G 35 [.list (xs.map Vm.V.str),.str sep] (.str (Lib.join xs sep)) := by
 refine zaW (by kernel_rfl) rfl fun w A vals hA hv => ?_
 obtain ⟨v,hvv,hx⟩ := repL_2s hv
 subst hvv
 clear hv
 have hj := bs_join xs sep
 generalize hl : xs.map Vm.V.str = l at hx
 cases hx with
 | nil a c =>
  obtain rfl : xs = [] := List.map_eq_nil_iff.1 hl
  refine Calls.mono (Any.strings_Join_none zf6 zdQ a c (Lx.bs sep) w) fun e w' h => ?_
  obtain ⟨rfl,rfl⟩ := h
  exact ⟨Below.refl _ _,_,rfl,_,rfl,.str []⟩
 | list _ z b off c vs h1 h2 h3 h4 h5 =>
  subst hl
  have hvs := zeV h2
  subst hvs
  rw [List.length_map] at h4 ⊢
  match xs,h1,h3,h4,hN,h,hj with
  | [x],h1,h3,h4,hN,h,hj =>
   refine Calls.mono (Any.strings_Join_one zf6 zdQ b off c (Lx.bs x) (Lx.bs sep) w (h3.2 0 _ rfl).1) fun e w' h => ?_
   obtain ⟨rfl,rfl⟩ := h
   refine ⟨Below.refl _ _,_,rfl,_,rfl, ?_⟩
   rw [Lib.join_one]
   exact .str x
  | x :: y :: r,h1,h3,h4,hN,h,hj =>
   have hlen : (x :: y :: r).length = ((x :: y :: r).map Lx.bs).length := by rw [List.length_map]
   rw [hlen] at hN h4 ⊢
   refine Calls.mono (Any.strings_Join_many zf6 zdQ b off c ((x :: y :: r).map Lx.bs) (Lx.bs sep) w ?_ h3.1 (by simp) (by omega) h4 ?_) fun e w' h => zj5 (f := 0) (vals := #[]) hj h
   ·intro j u hu
    refine (h3.2 j (.string u) ?_).1
    rw [List.getElem?_map] at hu ⊢
    cases hx : (x :: y :: r)[j]? with
    | none => rw [hx] at hu;cases hu
    | some t => rw [hx] at hu;simp at hu;subst hu;rfl
   ·rw [zix];omega
theorem zgL {G : Nat → Vm.V} {m : Int} (hG : G (shRen.g 1) = .ip (.int .i64 m) 0) {s : List UInt8} (hs : s.length ≤ 1000000) : Ret Tryd.prog G 33 [.str s,.str [39],.str [39,39]] (.str (Ex.zcY s)) := by
 refine zdN (by kernel_rfl) rfl fun w A vals hA hv hg => ?_
 obtain rfl := repL_3s hv
 have hm : w.cell? ⟨shRen.g 1,0,none⟩ = some (.int .i64 m) := by
  rcases hg (shRen.g 1) with h | h
  ·rw [hG] at h;cases h
  ·rw [hG] at h
   generalize hp : (Value.pointer (some ⟨shRen.g 1,0,none⟩)) = p at h
   cases h with
   | ip _ _ b o vs h1 h2 =>
    cases hp
    cases h1 with
    | one _ v h3 h4 =>
     cases h4
     exact (h2.2 0 _ rfl).1
 have hsz : (Lx.bs s).size = s.length := Lx.zar s
 have hc := Lib.countB_le (Lx.bs [39]) (by decide) s.length (Lx.bs s) (by omega)
 refine Calls.mono (Any.strings_ReplaceAll lay_n155 zdQ (Lx.bs s) (Lx.bs [39]) (Lx.bs [39,39]) m w (by omega) hm (by decide) ?_) fun e w' h => zj5 (f := 0) (vals := #[]) ?_ h
 ·rw [show (Lx.bs [39,39]).size = 2 from rfl];omega
 ·have e1 : (Lx.bs s).data.toList = s := Lx.zaN s
  rw [e1]
  show _ = Lx.bs (Ex.zcY s)
  rw [← Ex.ziN];rfl
end Go.Proofs.YtakegkongmnekaaDoor
namespace Go.Proofs.YtakegkongmnekaaDoor
open Go.RowKit
open Vm
theorem zj7 {w w' : World} {A : Nat → Nat → Prop} {e : Ending} {t : List UInt8} (h : e = .returned (.string (Lx.bs t)) ∧ Below w.heap.size w w') : Below w.heap.size w w' ∧ ∃ o,o = POut.ret (.str t) ∧ OutRep w' A o e := by
 obtain ⟨rfl,h2⟩ := h
 exact ⟨h2,_,rfl,_,rfl,.str t⟩
theorem zjR {w : World} {A : Nat → Nat → Prop} {k : IntKind} {n : Int} {vals : Array Value} (h : RepL w A [.int k n] vals.toList) : vals = #[.int k n] := by
 obtain ⟨l⟩ := vals
 cases h with
 | cons _ _ v vs h1 h2 =>
  cases h1
  cases h2
  rfl
theorem n_Num {G : Nat → Vm.V} {n : Int} (h1 : -9223372036854775808 ≤ n) (h2 : n ≤ 9223372036854775807) : Ret Tryd.prog G 32 [.int .i64 n] (.str (Ox.num n)) := by
 refine zaW (by kernel_rfl) rfl fun w A vals hA hv => ?_
 rw [zjR hv]
 exact Calls.mono (tnum_any n w h1 h2) fun e w' h => zj7 h
theorem n_Hex {G : Nat → Vm.V} {s : List UInt8} (hs : s.length ≤ 1000000) : Ret Tryd.prog G 34 [.str s] (.str (Ox.hex s)) := by
 refine zaW (by kernel_rfl) rfl fun w A vals hA hv => ?_
 rw [zcV hv]
 refine Calls.mono (thex_any (Lx.bs s) w (by rw [Lx.zar];omega)) fun e w' h => ?_
 rw [Lx.zaN] at h
 exact zj7 h
def zhS : List Vm.V → Option (List (List UInt8))
 | [] => some []
 | .str s :: r => (match zhS r with | some l => some (s :: l) | none => none)
 | _ => none
theorem zec : ∀ {l : List Vm.V} {r : List (List UInt8)},zhS l = some r → l = r.map Vm.V.str
 | [],r,h => by cases h;rfl
 | v :: l,r,h => by
  unfold zhS at h
  split at h
  ·rename_i e;cases e
  ·rename_i s l' e
   cases e
   split at h
   ·rename_i l'' h2
    cases h
    rw [zec h2]
    rfl
   ·cases h
  ·cases h
def zhE : List Vm.V → Option Vm.V
 | [.list xs,.str sep] => (match zhS xs with
  | some l => if l.length ≤ 1000000 ∧ (Lib.join l sep).length ≤ 1000000000 then some (.str (Lib.join l sep)) else none
  | none => none)
 | _ => none
def zhD : List Vm.V → Option Vm.V
 | [.str s,.str a,.str b] => if s.length ≤ 1000000 ∧ a = [39] ∧ b = [39,39] then some (.str (Ex.zcY s)) else none
 | _ => none
def zk1 : List Vm.V → Option Vm.V
 | [.int .i64 n] => if -9223372036854775808 ≤ n ∧ n ≤ 9223372036854775807 then some (.str (Ox.num n)) else none
 | _ => none
theorem zja {G : Nat → Vm.V} (a : List Vm.V) (v : Vm.V) (h : zhE a = some v) : Ret Tryd.prog G 35 a v := by
 unfold zhE at h
 split at h
 ·split at h
  ·rename_i hl
   split at h
   ·rename_i hc
    cases h
    rw [zec hl]
    exact m_Join hc.1 hc.2
   ·cases h
  ·cases h
 ·cases h
theorem zi9 {G : Nat → Vm.V} {m : Int} (hG : G (shRen.g 1) = .ip (.int .i64 m) 0) (a : List Vm.V) (v : Vm.V) (h : zhD a = some v) : Ret Tryd.prog G 33 a v := by
 unfold zhD at h
 split at h
 ·split at h
  ·rename_i hc
   obtain ⟨h1,rfl,rfl⟩ := hc
   cases h
   exact zgL hG h1
  ·cases h
 ·cases h
theorem zk0 {f : FuncId} {G : Nat → Vm.V} (hf : ∀ {n : Int}, -9223372036854775808 ≤ n → n ≤ 9223372036854775807 → Ret Tryd.prog G f [.int .i64 n] (.str (Ox.num n))) (a : List Vm.V) (v : Vm.V) (h : zk1 a = some v) : Ret Tryd.prog G f a v := by
 unfold zk1 at h
 split at h
 ·split at h
  ·rename_i hc
   cases h
   exact hf hc.1 hc.2
  ·cases h
 ·cases h
class Gl where
 m : Int
def glG [Gl] : Nat → Vm.V := fun g => if g = shRen.g 1 then .ip (.int .i64 Gl.m) 0 else .any
end Go.Proofs.YtakegkongmnekaaDoor
namespace Go.Proofs.YtakegkongmnekaaDoor
open Go.RowKit
open Vm
theorem m_fold {G : Nat → Vm.V} {s : List UInt8} (hs : s.length ≤ 1000000) : zaR Tryd.prog G 15 [.str s] [] fun o es => o = .ret (.str (Lx.fold s)) ∧ es = [] := by
 refine zci (by kernel_rfl) rfl fun w A vals hv => ?_
 rw [zcV hv]
 have hz : (Lx.bs s).size ≤ 9223372036854775000 := by rw [Lx.zar];omega
 refine Calls.mono (zaX (Lx.bs s) w hz) fun e w' h => ⟨h.2,_,rfl, ?_⟩
 rw [h.1,Lx.zaN]
 exact ⟨_,rfl,.str _⟩
theorem n_rfold {G : Nat → Vm.V} {s : List UInt8} (hs : s.length ≤ 1000000) : zaR Tryd.prog G 17 [.str s] [] fun o es => o = .ret (.str (Lx.fold s)) ∧ es = [] := by
 refine zci (by kernel_rfl) rfl fun w A vals hv => ?_
 rw [zcV hv]
 have hz : (Lx.bs s).size ≤ 1000000000 := by rw [Lx.zar];omega
 refine Calls.mono (zjM (Lx.bs s) w hz) fun e w' h => ⟨h.2,_,rfl, ?_⟩
 rw [h.1,Lx.zaN]
 exact ⟨_,rfl,.str _⟩
def ans1 (g : List UInt8 → Vm.V) : List Vm.V → Option Vm.V
 | [.str s] => if s.length ≤ 1000000 then some (g s) else none
 | _ => none
theorem zk2 {g : List UInt8 → Vm.V} {a : List Vm.V} {v : Vm.V} (h : ans1 g a = some v) : ∃ s,a = [.str s] ∧ s.length ≤ 1000000 ∧ v = g s := by
 unfold ans1 at h
 split at h
 ·split at h
  ·rename_i hs;cases h;exact ⟨_,rfl,hs,rfl⟩
  ·cases h
 ·cases h
noncomputable def nv1 {G : Nat → Vm.V} (f : FuncId) (g : List UInt8 → Vm.V) (h : ∀ s : List UInt8,s.length ≤ 1000000 → zaR Tryd.prog G f [.str s] [] fun o es => o = .ret (g s) ∧ es = []) : Nv Tryd.prog G :=
 .pure f (ans1 g) fun a v hv => by
  obtain ⟨s,rfl,hs,rfl⟩ := zk2 hv
  exact h s hs
variable [Gl]
noncomputable def natL : List (Nv Tryd.prog glG) := [
 nv1 17 (fun s => .str (Lx.fold s)) fun _ hs => n_rfold hs,
 nv1 18 scanV fun _ hs => n_Scan hs,
 .fd 20 [10,11,12] [(4,0),(5,1),(6,2)],
 nv1 34 (fun s => .str (Ox.hex s)) fun _ hs => n_Hex hs,
 .pure 32 zk1 (zk0 n_Num),
 .pure 35 zhE zja,
 .pure 33 zhD (zi9 (m := Gl.m) (by unfold glG;rw [if_pos rfl])),
 nv1 15 (fun s => .str (Lx.fold s)) fun _ hs => m_fold hs]
end Go.Proofs.YtakegkongmnekaaDoor
namespace Go.Proofs.YtakegkongmnekaaDoor
open Go.RowKit
open Vm
noncomputable def annTw (f : FuncId) (d : List (Nat × Nat) × List LA) : List (Nat × Nat) × List LA := d
end Go.Proofs.YtakegkongmnekaaDoor
namespace Go.Proofs.YtakegkongmnekaaDoor
open Go.RowKit
open Vm
def zeG : List LA := [⟨false,[(3,.q 24),(6,.d),(7,.d),(8,.d)],[.rq 24 9 1]⟩]
def zde : List LA := [⟨false,[(3,.d),(4,.q 15)],[.rq 15 9 1]⟩]
noncomputable def zba (c : Orc) (l : Lup) (x0 : V) : Option Out :=
 ckA 11 x0 <|
 cl0 c 10 [(norm1 (agN 11 x0))] (fun w => pnk w []) fun v1 =>
 cnd v1 (cl0 c 11 [(norm1 (agN 11 x0))] (fun w => pnk w []) fun v2 =>
 (b0 .leq v2 (.int .i64 150)).bind fun v3 =>
 rtn (norm1 v3) [])
 (rtn (.bool false) [])
theorem zb5 (G : Nat → Vm.V) (c : Orc) (l : Lup) (x0 : V) : evF Tryd.prog G c l [] 10 [] 4 [.d x0] [] = zba c l x0 := by kernel_rfl
noncomputable def zaz (c : Orc) (l : Lup) (s : List V) : Option (Stp Out) :=
 (lenL (cell (gt s 1) 10)).bind fun v1 =>
 (b0 .lss (gt s 0) v1).bind fun v2 =>
 cnd v2 ((elV 11 (cell (gt s 1) 10) (gt s 0)).bind fun v3 =>
 (ldV true 11 v3 0).bind fun v4 =>
 cl0 c 10 [(norm1 v4)] (fun w => om (pnk w [])) fun v5 =>
 (zdJ .not v5).bind fun v6 =>
 cnd v6 (om (rtn (.bool false) []))
 ((b0 .add (gt s 0) (.int .i64 1)).bind fun v7 =>
 some (.next [v7,(agN 11 (gt s 1))])))
 (om (rtn (.bool true) []))
noncomputable def zaq (c : Orc) (l : Lup) (a1_0 a1_1 : V) : Option Out :=
 cnd a1_0 (rtn (.bool false) [])
 (l Out (zaz c l) [(.int .i64 0),(agN 11 a1_1)])
noncomputable def zaH (c : Orc) (l : Lup) (x0 : V) : Option Out :=
 ckA 11 x0 <|
 (lenL (cell x0 10)).bind fun v1 =>
 (b0 .gtr v1 (.int .i64 60)).bind fun v2 =>
 cnd v2 (zaq c l (.bool true) (agN 11 x0))
 ((lenS (cell x0 1)).bind fun v3 =>
 (lenS (cell x0 5)).bind fun v4 =>
 (b0 .add v3 v4).bind fun v5 =>
 (lenS (cell x0 6)).bind fun v6 =>
 (b0 .add v5 v6).bind fun v7 =>
 (b0 .gtr v7 (.int .i64 400)).bind fun v8 =>
 cnd v8 (zaq c l (.bool true) (agN 11 x0))
 ((lenS (cell x0 4)).bind fun v9 =>
 (b0 .gtr v9 (.int .i64 100)).bind fun v10 =>
 zaq c l v10 (agN 11 x0)))
def zbC : List LA := [⟨false,[(1,.c (.p 10 0)),(3,.d)],[.bv 10 26 11]⟩]
theorem zdn (G : Nat → Vm.V) (c : Orc) (l : Lup) (x0 : V) : evF Tryd.prog G c l [] 10 zbC 10 [.d x0] [] = zaH c l x0 := by kernel_rfl
noncomputable def annTx (f : FuncId) (d : List (Nat × Nat) × List LA) : List (Nat × Nat) × List LA := if f = 24 then ([],zeG) else if f = 25 then ([(30,15),(48,15),(62,15),(66,15)],zde) else if f = 10 then ([],zbC) else d
end Go.Proofs.YtakegkongmnekaaDoor
namespace Go.Proofs.YtakegkongmnekaaDoor
open Go.RowKit
open Vm
noncomputable def zcx (c : Orc) (l : Lup) (x0 x1 : V) : Option Out :=
 cl0 c 15 [(norm1 x0)] (fun w => pnk w []) fun v1 =>
 cl0 c 15 [(norm1 x1)] (fun w => pnk w []) fun v2 =>
 (b0 .eql v1 v2).bind fun v3 =>
 rtn (norm1 v3) []
theorem zfN (G : Nat → Vm.V) (c : Orc) (l : Lup) (x0 x1 : V) : evF Tryd.prog G c l [] 10 [] 14 [.d x0,.d x1] [] = zcx c l x0 x1 := by kernel_rfl
noncomputable def zab (c : Orc) (l : Lup) (s : List V) : Option (Stp Out) :=
 (b0 .lss (gt s 4) (gt s 3)).bind fun v1 =>
 cnd v1 ((elV 11 (gt s 2) (gt s 4)).bind fun v2 =>
 (ldV true 11 v2 0).bind fun v3 =>
 ckA 11 v3 <|
 (elV 11 (gt s 0) (gt s 4)).bind fun v4 =>
 (ldV true 11 v4 0).bind fun v5 =>
 ckA 11 v5 <|
 cl0 c (fnG (gt s 1)) [(norm1 (agN 11 v3)),(norm1 (agN 11 v5))] (fun w => om (pnk w [])) fun v6 =>
 (zdJ .not v6).bind fun v7 =>
 cnd v7 (om (rtn (.bool false) []))
 ((b0 .add (gt s 4) (.int .i64 1)).bind fun v8 =>
 some (.next [(gt s 0),(.fn (fnG (gt s 1)) [] []),(gt s 2),(gt s 3),v8])))
 (om (rtn (.bool true) []))
noncomputable def zag (c : Orc) (l : Lup) (g2 : FuncId) (x0 x1 : V) : Option Out :=
 (lenL x0).bind fun v1 =>
 (lenL x1).bind fun v2 =>
 (b0 .neq v1 v2).bind fun v3 =>
 cnd v3 (rtn (.bool false) [])
 ((lenL x0).bind fun v4 =>
 l Out (zab c l) [x1,(.fn g2 [] []),x0,v4,(.int .i64 0)])
def zam : List LA := [⟨false,[(1,.d),(2,.f [] []),(15,.d),(16,.d),(17,.d)],[]⟩]
theorem zax (G : Nat → Vm.V) (c : Orc) (l : Lup) (g2 : FuncId) (x0 x1 : V) : evF Tryd.prog G c l [] 10 zam 16 [.d x0,.d x1,.f g2 [] []] [] = zag c l g2 x0 x1 := by kernel_rfl
noncomputable def zaD (c : Orc) (l : Lup) (x0 x1 : V) : Option Out :=
 ckA 11 x0 <|
 ckA 11 x1 <|
 (b0 .eql (cell x0 0) (cell x1 0)).bind fun v1 =>
 cnd v1 ((b0 .eql (cell x0 1) (cell x1 1)).bind fun v2 =>
 cnd v2 ((binV .eql true true false (.agg [(cell x0 2),(cell x0 3),(cell x0 4)]) (.agg [(cell x1 2),(cell x1 3),(cell x1 4)])).bind fun v3 =>
 cnd v3 (cl0 c 14 [(norm1 (cell x0 5)),(norm1 (cell x1 5))] (fun w => pnk w []) fun v4 =>
 cnd v4 (cl0 c 14 [(norm1 (cell x0 6)),(norm1 (cell x1 6))] (fun w => pnk w []) fun v5 =>
 cnd v5 ((b0 .eql (cell x0 7) (cell x1 7)).bind fun v6 =>
 cnd v6 ((binV .eql true false false (cell x0 8) (cell x1 8)).bind fun v7 =>
 cnd v7 ((binV .eql true false false (cell x0 9) (cell x1 9)).bind fun v8 =>
 cnd v8 (cl0 c 16 [(norm1 (cell x0 10)),(norm1 (cell x1 10)),(.fn 8 [] [])] (fun w => pnk w []) fun v9 =>
 rtn (norm1 v9) [])
 (rtn (.bool false) []))
 (rtn (.bool false) []))
 (rtn (.bool false) []))
 (rtn (.bool false) []))
 (rtn (.bool false) []))
 (rtn (.bool false) []))
 (rtn (.bool false) []))
 (rtn (.bool false) [])
theorem zhi (G : Nat → Vm.V) (c : Orc) (l : Lup) (x0 x1 : V) : evF Tryd.prog G c l [] 10 [] 8 [.d x0,.d x1] [] = zaD c l x0 x1 := by kernel_rfl
noncomputable def zav (c : Orc) (l : Lup) (a1_0 a1_1 a1_2 : V) : Option Out :=
 cnd a1_0 (cl0 c 5 [] (fun w => pnk w []) fun v1 =>
 rtn (norm1 v1) [])
 (cl0 c 5 [] (fun w => pnk w []) fun v2 =>
 cnd v2 (cl0 c 6 [(norm1 (agN 11 a1_1))] (fun w => pnk w []) fun v3 =>
 cl0 c 7 [(norm1 (agN 11 a1_1))] (fun w => pnk w []) fun v4 =>
 (b0 .eql v3 v4).bind fun v5 =>
 cnd v5 (cl0 c 8 [(norm1 (agN 11 a1_1)),(norm1 (agN 11 a1_2))] (fun w => pnk w []) fun v6 =>
 cl0 c 9 [(norm1 (agN 11 a1_1)),(norm1 (agN 11 a1_2))] (fun w => pnk w []) fun v7 =>
 (binV .eql true false false v6 v7).bind fun v8 =>
 cnd v8 (cl0 c 8 [(norm1 (agN 11 a1_2)),(norm1 (agN 11 a1_1))] (fun w => pnk w []) fun v9 =>
 cl0 c 8 [(norm1 (agN 11 a1_1)),(norm1 (agN 11 a1_2))] (fun w => pnk w []) fun v10 =>
 (binV .eql true false false v9 v10).bind fun v11 =>
 cnd v11 (cl0 c 8 [(norm1 (agN 11 a1_1)),(norm1 (agN 11 a1_1))] (fun w => pnk w []) fun v12 =>
 rtn (norm1 v12) [])
 (rtn (.bool false) []))
 (rtn (.bool false) []))
 (rtn (.bool false) []))
 (rtn (.bool false) []))
noncomputable def sh_tomelaw25_ExprSame (c : Orc) (l : Lup) (x0 x1 : V) : Option Out :=
 ckA 11 x0 <|
 ckA 11 x1 <|
 cl0 c 4 [(norm1 (agN 11 x0))] (fun w => pnk w []) fun v1 =>
 (zdJ .not v1).bind fun v2 =>
 cnd v2 (zav c l (.bool true) (agN 11 x0) (agN 11 x1))
 (cl0 c 4 [(norm1 (agN 11 x1))] (fun w => pnk w []) fun v3 =>
 (zdJ .not v3).bind fun v4 =>
 zav c l v4 (agN 11 x0) (agN 11 x1))
theorem zcv (G : Nat → Vm.V) (c : Orc) (l : Lup) (x0 x1 : V) : evF Tryd.prog G c l [] 10 [] 3 [.d x0,.d x1] [] = sh_tomelaw25_ExprSame c l x0 x1 := by kernel_rfl
noncomputable def annTy (f : FuncId) (d : List (Nat × Nat) × List LA) : List (Nat × Nat) × List LA := if f = 16 then ([],zam) else d
end Go.Proofs.YtakegkongmnekaaDoor
namespace Go.Proofs.YtakegkongmnekaaDoor
open Go.RowKit
open Vm
variable [Gl]
def prsE (L : List Lx.TA) (p : Nat) : Ent := .blk 59 [.list (L.map tokM),.int .i64 (p : Int)]
def expC : Ex.E → List Vm.V
 | .mk k op v t n s ng d l => [.int .i64 k,.str op,.int .i64 v.1,.int .i64 v.2.1,.str v.2.2,.str t,.str n,.int .i64 s,.bool ng,.bool d,.list (l.map fun e => .agg (expC e))]
def encE (e : Ex.E) : Vm.V := .agg (expC e)
noncomputable def annT (f : FuncId) : List (Nat × Nat) × List LA := annTy f <| annTx f <| annTw f <| annTv f (annTu f (annTr f (annTc f ([],[]))))
noncomputable def pr : Pro := .ofL Tryd.prog glG annT natL
theorem zky {s : List UInt8} (hs : s.length ≤ 1000000) : pr.ev 15 [.str s] [] = some (.ret (.str (Lx.fold s)),[]) := pr.ofN rfl (by show ziO (ans1 _ [.str s]) = _;simp [ziO,ans1,hs])
theorem zas {s : List UInt8} (hs : s.length ≤ 1000000) : pr.ev 17 [.str s] [] = some (.ret (.str (Lx.fold s)),[]) := pr.ofN rfl (by show ziO (ans1 _ [.str s]) = _;simp [ziO,ans1,hs])
@[simp] theorem tok_el (L : List Lx.TA) (i : Nat) (k : IntKind) : elV 6 (.list (L.map tokM)) (.int k (i : Int)) = (L[i]?).map tokM := el_map 6 tokM L k i fun _ => rfl
@[simp] theorem tok_0 (t : Lx.TA) : ldV false 1 (tokM t) 0 = some (.int .i64 t.1.kind) := rfl
@[simp] theorem tok_1 (t : Lx.TA) : ldV false 1 (tokM t) 1 = some (.str t.1.text) := rfl
@[simp] theorem tok_w (t : Lx.TA) : ldV true 6 (tokM t) 0 = some (tokM t) := rfl
@[simp] theorem tok_n (t : Lx.TA) : norm1 (tokM t) = tokM t := rfl
@[simp] theorem tok_a (t : Lx.TA) : agN 6 (tokM t) = tokM t := rfl
@[simp] theorem tok_k {Z : Type} (t : Lx.TA) (A : Option Z) : ckA 6 (tokM t) A = A := rfl
theorem tok_wf (t : Lx.TA) : wf (tokM t) = true := rfl
theorem zg3 (L : List Lx.TA) : wfs (L.map tokM) = true := zaT.2 fun v hv => by obtain ⟨t,_,rfl⟩ := List.mem_map.1 hv;exact tok_wf t
@[simp] theorem prs_fold (L : List Lx.TA) (p : Nat) : Ent.blk 59 [.list (L.map tokM),.int .i64 (p : Int)] = prsE L p := rfl
@[simp] theorem prs_0 (L : List Lx.TA) (p : Nat) : zgS (prsE L p) 0 = .list (L.map tokM) := rfl
@[simp] theorem prs_1 (L : List Lx.TA) (p : Nat) : zgS (prsE L p) 1 = .int .i64 (p : Int) := rfl
theorem ckE_p {Z : Type} (L : List Lx.TA) (p : Nat) (A : Option Z) : ckE 59 2 (prsE L p) A = A := by
 unfold ckE prsE
 dsimp only
 rw [if_pos ⟨rfl,rfl,by simp [wfs,wf,zg3]⟩]
section
variable {Z : Type} {c : Orc} {g : FuncId} {args : List Vm.V} {L : List Lx.TA} {p q : Nat} {v : Vm.V}
theorem k_r (h : c g args [prsE L p] = some (.ret v,[prsE L q])) (Kp K : Vm.V → Ent → Option Z) : cl1 c g args (prsE L p) 59 2 Kp K = K v (prsE L q) := by
 simp only [cl1,cal,h,nth,List.getD_cons_zero,ckE_p]
theorem k_p (h : c g args [prsE L p] = some (.panic v,[prsE L q])) (Kp K : Vm.V → Ent → Option Z) : cl1 c g args (prsE L p) 59 2 Kp K = Kp v (prsE L q) := by
 simp only [cl1,cal,h,nth,List.getD_cons_zero,ckE_p]
end
theorem zeU {p : Nat} (h : p ≤ 1000000) : IntKind.wrap .i64 ((p : Int) + 1) = ((p + 1 : Nat) : Int) := by rw [zfs (by omega) (by omega)];simp
def stopV (q : Nat) : Vm.V := .iface 55 (.agg [.int .i64 (q : Int)])
end Go.Proofs.YtakegkongmnekaaDoor
namespace Go.Proofs.YtakegkongmnekaaDoor
open Go.RowKit
open Go.ChangeShapes Go.WideShapes Go.ChangeAt
section
variable {H : Type} {enc : TypeId × Value → H} {P : Program}
theorem ziP {f : Func} {s : ChangeSpec} {apart fresh handsOn again : Bool} {W W' : World} {args : Array Value} {v : Value} {ds gs : List (DataW H)} {before pa pv : List MemPlace}
  (hW : DataW.Whole enc P f.params.toList s.vars apart W args.toList ds gs before)
  (hres : ∀ (b : Nat) (sp : Nat → Bool) (hd : Bool),DataW.TrodAll enc P W' b sp hd f.resultTypes.toList (v.resultList f.resultTypes.size) (s.fn H (ds ++ gs)).results [])
  (hargs : ∀ sp : Nat → Bool,(∀ p ∈ before,sp p.block = true) → DataW.TrodAll enc P W' 0 sp true f.params.toList args.toList (s.fn H (ds ++ gs)).args pa)
  (hvars : ∀ sp : Nat → Bool,(∀ p ∈ before,sp p.block = true) → DataW.TrodVars enc P W' sp s.vars (s.fn H (ds ++ gs)).vars pv)
  (hps : before = pa ++ pv) (hb : Below W.heap.size W W')
  (hok : ∀ (j : Nat) (t : TypeId) (r : Value),f.resultTypes[j]? = some t → (v.resultList f.resultTypes.size)[j]? = some r → Value.okWide P W' .any 0 t r) :
  s.post enc P f apart fresh handsOn again W args v W' := by
 have old : ∀ p ∈ before,p.block < W.heap.size := fun p hp => hW.lt p hp
 have hold : ∀ p ∈ before,(fun b => decide (b < W.heap.size)) p.block = true := fun p hp => by simpa using old p hp
 have mem : ∀ p,p ∈ before ↔ p ∈ pa ∨ p ∈ pv := fun p => by rw [hps,List.mem_append]
 refine ⟨ds,gs,before,[],pa,pv,hW,hres _ _ _,hargs _ hold,hvars _ hold,World.keptBut_mono (fun p hp => ⟨hp,.inr ((mem p).1 hp)⟩) (hb.frame _),fun _ => ?_⟩
 obtain ⟨_,_,_,_,_,hz,hn⟩ := hW
 refine ⟨hok,_,_,([] ++ pa) ++ pv,⟨[] ++ pa,pv,trodAll_append (hargs _ (fun _ _ => rfl)) (hres _ _ _),hvars _ (fun _ _ => rfl),rfl,fun b off hp => ?_,fun ha => ?_⟩,fun p hp _ => ?_⟩
 ·have hp' : MemPlace.cell b off ∈ before := by rw [hps];simpa using hp
  rw [hb.frozen (p := ⟨b,off,none⟩) (old _ hp')]
  exact hz b off hp'
 ·have := hn ha
  rw [hps] at this
  simpa using this
 ·rw [hps]
  simpa using hp
end
end Go.Proofs.YtakegkongmnekaaDoor
namespace Go.Proofs.YtakegkongmnekaaDoor
open Go.RowKit
open Vm
theorem zgX {P : Program} {G : Nat → Vm.V} {f : FuncId} {args : List Vm.V} {v : Vm.V} (h : Ret P G f args v) {w : World} {vals : Array Value} (hv : RepL w (fun _ _ => False) args vals.toList)
  (hg : ∀ g,G g = .any ∨ RepV w (fun _ _ => False) (G g) (.pointer (some ⟨g,0,none⟩))) : Calls P f vals w fun e w' => Below w.heap.size w w' ∧ ∃ A',OutRep w' A' (.ret v) e := by
 have hm : Mem ⟨w,fun _ _ => False,0,fun _ => Value.nilIface,entF [],G,0,[]⟩ (entF []) w (fun _ => Value.nilIface) (fun _ _ => False) :=
  { glo := hg,kp := Keeps.refl _ _,ent := fun id => trivial,dis := fun id id' _ h => absurd rfl h,a00 := fun b o h => h.elim,a0 := fun b o h _ => h,al := fun b o h => h.elim,out := Foll.refl _ _,lent := fun id b h => absurd h (Nat.not_lt_zero _),loc := fun id b _ h => absurd rfl h,ext := ⟨rfl,rfl,rfl,Nat.le_refl _,fun _ _ _ => rfl⟩ }
 refine Calls.mono (h.2 w _ _ vals hm (zdU hv)) fun e w' ⟨o,es,H',A',⟨ho,hes⟩,_,_,hm',hout⟩ => ?_
 subst ho
 exact ⟨⟨hm'.ext.os,hm'.ext.tape,hm'.ext.output,hm'.ext.size,fun k hk => hm'.ext.block k hk (fun id h => absurd h (Nat.not_lt_zero _))⟩,A',hout⟩
theorem zhH {w : World} {b o : Nat} {v : Value} (h : w.cell? ⟨b,o,none⟩ = some v) : b < w.heap.size := by
 false_or_by_contra
 rename_i hn
 have : w.heap[b]? = none := Array.getElem?_eq_none (by omega)
 simp [World.cell?,this] at h
def gOf (m : Int) : Nat → Vm.V := fun g => if g = shRen.g 1 then .ip (.int .i64 m) 0 else .any
theorem gOf_at (m : Int) : gOf m (shRen.g 1) = .ip (.int .i64 m) 0 := if_pos rfl
theorem gOf_rep {W : World} {m : Int} (h : W.cell? ⟨shRen.g 1,0,none⟩ = some (.int .i64 m)) (g : Nat) : gOf m g = .any ∨ RepV W (fun _ _ => False) (gOf m g) (.pointer (some ⟨g,0,none⟩)) := by
 by_cases hg : g = shRen.g 1
 ·subst hg
  right
  rw [gOf_at]
  refine .ip (.int .i64 m) 0 (shRen.g 1) 0 [.int .i64 m] (.one _ _ rfl (.int _ _)) ⟨?_,fun j u hu => ⟨?_,fun h => h⟩⟩
  ·exact zhH h
  ·match j,hu with
   | 0,hu =>
    cases hu
    exact h
 ·left
  exact if_neg hg
theorem g_cell {W : World} (h : W.ShapedOpen Tryd.prog) : ∃ m,W.cell? ⟨shRen.g 1,0,none⟩ = some (.int .i64 m) :=
 Go.Proofs.cell_of_shapedOpen_int (t := 3) (zero := #[.int .i64 0]) h (of_decide_eq_true (by kernel_rfl)) (by kernel_rfl) rfl (by kernel_rfl) (by kernel_rfl) (by kernel_rfl)
theorem zhy {m : Int} {f : FuncId} {args : List Vm.V} {v : Vm.V} (h : (@pr ⟨m⟩).ev f args [] = some (.ret v,[])) (ha : ∀ a ∈ args,argOk 0 a) {w : World} (hm : w.cell? ⟨shRen.g 1,0,none⟩ = some (.int .i64 m)) {vals : Array Value} (hv : RepL w (fun _ _ => False) args vals.toList) :
  Calls Tryd.prog f vals w fun e w' => Below w.heap.size w w' ∧ ∃ A',OutRep w' A' (.ret v) e :=
 zgX (G := gOf m) (((@pr ⟨m⟩).ev_ok f args [] (.ret v) [] ha (fun e he => by cases he) h).mono fun o es h => h) hv (gOf_rep hm)
section
variable {H : Type} {enc : TypeId × Value → H}
theorem zdx {a : Assume} {C : Checked} {os : Os} {f : FuncId} {fn : Func} {s : ChangeSpec} {conds : List PathCond} {apart fresh handsOn again : Bool} {X : World → Array Value → Prop}
  (hX : ∀ (w w' : World) (args : Array Value),w.heap = w'.heap → X w args → X w' args)
  (own : ownKnob C.prog.godebug = none) (started : os.Started) (noInit : C.prog.inits.idxOf? f = none) (hfn : C.prog.funcs[f]? = some fn)
  (witness : ∃ (w : World) (tape : Tape) (i : Input),w.os = os ∧ (w.forCall tape i).Shaped C.prog ∧ i.vars = [] ∧ Input.okWide C.prog (w.forCall tape i) .any w.heap.size f i ∧
   ((s.pre enc C.prog fn conds apart (w.forCall tape i).memory i.args ∧ X (w.forCall tape i).memory i.args) ∧ sizedMet enc C.prog fn (OpenSpec.ofChange s) apart (w.forCall tape i).memory i.args) ∧ a.holds C.prog (lone (Frame.enter C.prog f i.args .normal) [] (w.forCall tape i)))
  (contract : ∀ (W : World) (base : Nat) (args : Array Value) (ds gs : List (DataW H)) (before : List MemPlace),
   (∀ (j : Nat) t v,fn.params[j]? = some t → args[j]? = some v → Value.okWide C.prog W .any base t v) →
   DataW.Whole enc C.prog fn.params.toList s.vars apart W args.toList ds gs before →
   conds.all (PathCond.test C.prog ⟨fn.params.toList,ds,s.plain.varTypes C.prog,gs⟩) = true →
   (DataW.weightsEach C.prog (fn.params.toList ++ s.plain.varTypes C.prog) (ds ++ gs)).all (· ≤ reachBytes) = true → X W args → W.ShapedOpen C.prog →
   a.holds C.prog (lone (Frame.enter C.prog f args .normal) [] W) →
   Calls C.prog f args W fun e W' => ∃ v,e = .returned v ∧ s.post enc C.prog fn apart fresh handsOn again W args v W') :
  ReturnsInHanded a C os f .any (fun w args => (s.pre enc C.prog fn conds apart w args ∧ X w args) ∧ sizedMet enc C.prog fn (OpenSpec.ofChange s) apart w args) (s.post enc C.prog fn apart fresh handsOn again) := by
 refine returnsInHanded_of_calls own started noInit witness ?_
 intro w tape i _ hsh _ hok hpre hholds
 obtain ⟨_,_,_,fn',hfn',_,_,_,_,hval⟩ := hok
 have e : fn' = fn := Option.some.inj (hfn'.symm.trans hfn)
 subst e
 obtain ⟨⟨⟨ds,gs,before,hw,hc⟩,hx⟩,hz⟩ := hpre
 have hw' := DataW.Whole.of_heap (w' := w.forCall tape i) (by rfl) hw
 refine (contract (w.forCall tape i) w.heap.size i.args ds gs before hval hw' hc (hz.weights hw) (hX _ _ _ (by rfl) hx) hsh hholds).mono fun e W' ⟨v,he,hp⟩ => ?_
 subst he
 exact ChangeSpec.post_blind hp
end
abbrev ziX : List (String × DataW Unit) := [("unicode/utf8.acceptRanges",Rows.laid_unicode_utf8_acceptRanges),("unicode/utf8.first",Rows.laid_unicode_utf8_first)]
theorem zjb (os : Os) (args : Array Value) : laidMetH Tryd.prog ziX ((World.laidAll Tryd.prog os ziX).forCall (fun _ _ => 0) ⟨#[],args,[]⟩).memory := by
 rw [MakeChecks.laidMetH_plain _ _ _ (by kernel_rfl)]
 exact laidMet_laidAll _ (by kernel_rfl) (by kernel_rfl)
theorem xOwn_ : ownKnob Tryd.prog.godebug = none := by kernel_rfl
end Go.Proofs.YtakegkongmnekaaDoor
namespace Go.Proofs.YtakegkongmnekaaDoor
open Go.RowKit
open Vm
variable [Gl]
theorem enc_mk (k : Int) (op : Ex.S) (v : Ex.V) (t n : Ex.S) (s : Int) (g d : Bool) (l : List Ex.E) :
  encE (.mk k op v t n s g d l) = .agg [.int .i64 k,.str op,.int .i64 v.1,.int .i64 v.2.1,.str v.2.2,.str t,.str n,.int .i64 s,.bool g,.bool d,.list (l.map encE)] := by unfold encE;rw [expC]
theorem ziq (e : Ex.E) : (encE e).size = 11 := by cases e;rw [enc_mk];rfl
@[simp] theorem enc_ck {Z : Type} (e : Ex.E) (A : Option Z) : ckA 11 (encE e) A = A := by cases e;rw [enc_mk];exact ckA_agg _ _ rfl (by simp)
@[simp] theorem enc_ag (e : Ex.E) : agN 11 (encE e) = encE e := by cases e;rw [enc_mk];exact agN_agg _ _ rfl
@[simp] theorem enc_nm (e : Ex.E) : norm1 (encE e) = encE e := by cases e;rw [enc_mk];simp
def LvP (L : List Lx.TA) (f : FuncId) (k n : Nat) : Prop := ∀ m p r,m ≤ n → p ≤ L.length → Ex.run (L.map (·.1)) m (.lev k) p = some r →
 (∃ e q,r = .ok [e] q ∧ p < q ∧ q ≤ L.length ∧ pr.ev f [.ptr 0 0] [prsE L p] = some (.ret (encE e),[prsE L q])) ∨ ∃ q,r = .stop q ∧ q ≤ L.length ∧ pr.ev f [.ptr 0 0] [prsE L p] = some (.panic (stopV q),[prsE L q])
def OutP (L : List Lx.TA) (lo : Nat) (r : Ex.R) (o : Option Out) : Prop := (∃ e q,r = .ok [e] q ∧ lo ≤ q ∧ q ≤ L.length ∧ o = some (.ret (encE e),[prsE L q])) ∨ ∃ q,r = .stop q ∧ q ≤ L.length ∧ o = some (.panic (stopV q),[prsE L q])
end Go.Proofs.YtakegkongmnekaaDoor
namespace Go.Proofs.YtakegkongmnekaaDoor
open Go.RowKit
open Vm
variable [Gl]
theorem OutP.of {L : List Lx.TA} {lo : Nat} {r : Ex.R} {o o' : Option Out} (h : OutP L lo r o) (e : ∀ z,o = some z → o' = some z) : OutP L lo r o' := by
 rcases h with ⟨a,q,h1,h2,h3,h4⟩ | ⟨q,h1,h3,h4⟩
 ·exact .inl ⟨a,q,h1,h2,h3,e _ h4⟩
 ·exact .inr ⟨q,h1,h3,e _ h4⟩
theorem LvP.of {L : List Lx.TA} {f : FuncId} {k n : Nat} (h : ∀ m p r,m ≤ n → p ≤ L.length → Ex.run (L.map (·.1)) (m + 1) (.lev k) p = some r → OutP L (p + 1) r (pr.ev f [.ptr 0 0] [prsE L p])) : LvP L f k (n + 1) := fun m p r hm hp hr => by
 cases m with
 | zero => cases hr
 | succ m => exact h m p r (by omega) hp hr
section
variable {L : List Lx.TA} {n : Nat} {f : FuncId} {k m p lo : Nat} {r : Ex.R} {Kp K : Vm.V → Ent → Option Out}
theorem LvP.go (h : LvP L f k n) (hm : m ≤ n) (hp : p ≤ L.length) {F : Ex.E → Nat → Option Ex.R} (hr : Ex.zbD (Ex.run (L.map (·.1)) m (.lev k) p) F = some r) (hk : ∀ e q,p < q → q ≤ L.length → F e q = some r → OutP L lo r (K (encE e) (prsE L q)))
  (hs : ∀ q,Kp (stopV q) (prsE L q) = some (.panic (stopV q),[prsE L q])) : OutP L lo r (cl1 pr.ev f [.ptr 0 0] (prsE L p) 59 2 Kp K) := by
 rcases Ex.then1_some hr with ⟨e,q,h1,h2⟩ | ⟨q,h1,rfl⟩
 ·rcases h m p _ hm hp h1 with ⟨e',q',h3,h4,h5,h6⟩ | ⟨q',h3,_⟩
  ·cases h3
   rw [k_r h6]
   exact hk e q h4 h5 h2
  ·cases h3
 ·rcases h m p _ hm hp h1 with ⟨e',q',h3,_⟩ | ⟨q',h3,h4,h5⟩
  ·cases h3
  ·cases h3
   rw [k_p h5]
   exact .inr ⟨q,rfl,h4,hs q⟩
theorem LvP.end (h : LvP L f k n) (hm : m ≤ n) (hp : p ≤ L.length) (hr : Ex.run (L.map (·.1)) m (.lev k) p = some r) (hlo : lo ≤ p + 1) (hk : ∀ e q,K (encE e) (prsE L q) = some (.ret (encE e),[prsE L q])) (hs : ∀ q,Kp (stopV q) (prsE L q) = some (.panic (stopV q),[prsE L q])) :
  OutP L lo r (cl1 pr.ev f [.ptr 0 0] (prsE L p) 59 2 Kp K) := by
 rcases h m p _ hm hp hr with ⟨e,q,rfl,h4,h5,h6⟩ | ⟨q,rfl,h4,h5⟩
 ·rw [k_r h6]
  exact .inl ⟨e,q,rfl,by omega,h5,hk e q⟩
 ·rw [k_p h5]
  exact .inr ⟨q,rfl,h4,hs q⟩
def LsP (L : List Lx.TA) (n : Nat) : Prop := ∀ m p r,m ≤ n → p ≤ L.length → Ex.run (L.map (·.1)) m (.list []) p = some r →
 (∃ l q,r = .ok l q ∧ p < q ∧ q ≤ L.length ∧ l.length ≤ 1000000 ∧ pr.ev 83 [.ptr 0 0] [prsE L p] = some (.ret (.list (l.map encE)),[prsE L q])) ∨ ∃ q,r = .stop q ∧ q ≤ L.length ∧ pr.ev 83 [.ptr 0 0] [prsE L p] = some (.panic (stopV q),[prsE L q])
theorem LsP.go (h : LsP L n) (hm : m ≤ n) (hp : p ≤ L.length) {F : List Ex.E → Nat → Option Ex.R} (hr : Ex.zjv (Ex.run (L.map (·.1)) m (.list []) p) F = some r) (hk : ∀ l q,p < q → q ≤ L.length → l.length ≤ 1000000 → F l q = some r → OutP L lo r (K (.list (l.map encE)) (prsE L q)))
  (hs : ∀ q,Kp (stopV q) (prsE L q) = some (.panic (stopV q),[prsE L q])) : OutP L lo r (cl1 pr.ev 83 [.ptr 0 0] (prsE L p) 59 2 Kp K) := by
 rcases Ex.thenL_some hr with ⟨e,q,h1,h2⟩ | ⟨q,h1,rfl⟩
 ·rcases h m p _ hm hp h1 with ⟨e',q',h3,h4,h5,h7,h6⟩ | ⟨q',h3,_⟩
  ·cases h3
   rw [k_r h6]
   exact hk e q h4 h5 h7 h2
  ·cases h3
 ·rcases h m p _ hm hp h1 with ⟨e',q',h3,_⟩ | ⟨q',h3,h4,h5⟩
  ·cases h3
  ·cases h3
   rw [k_p h5]
   exact .inr ⟨q,rfl,h4,hs q⟩
end
end Go.Proofs.YtakegkongmnekaaDoor
namespace Go.Proofs.YtakegkongmnekaaDoor
open Go.RowKit
open Vm
variable [Gl]
section
variable {L : List Lx.TA} {n : Nat}
theorem OutP.go {f : FuncId} {a : List Vm.V} {p lo lo' : Nat} {r : Ex.R} {Kp K : Vm.V → Ent → Option Out} (h : OutP L lo' r (pr.ev f a [prsE L p])) (hlo : lo ≤ lo') (hk : ∀ e q,lo' ≤ q → q ≤ L.length → K (encE e) (prsE L q) = some (.ret (encE e),[prsE L q])) (hs : ∀ q,Kp (stopV q) (prsE L q) = some (.panic (stopV q),[prsE L q])) :
  OutP L lo r (cl1 pr.ev f a (prsE L p) 59 2 Kp K) := by
 rcases h with ⟨e,q,rfl,h1,h2,h3⟩ | ⟨q,rfl,h2,h3⟩
 ·rw [k_r h3]
  exact .inl ⟨e,q,rfl,by omega,h2,hk e q h1 h2⟩
 ·rw [k_p h3]
  exact .inr ⟨q,rfl,h2,hs q⟩
end
end Go.Proofs.YtakegkongmnekaaDoor
namespace Go.Proofs.YtakegkongmnekaaDoor
open Go.RowKit
open Vm
variable [Gl]
mutual
theorem zkw : ∀ e : Ex.E,wfs (expC e) = true
 | .mk k op v t n s g d l => by
  rw [expC]
  simp only [wfs,wf,Bool.true_and,Bool.and_true]
  exact zkv l
theorem zkv : ∀ l : List Ex.E,wfs (l.map fun e => .agg (expC e)) = true
 | [] => rfl
 | e :: l => by simp only [List.map_cons,wfs,wf,zkw e,zkv l,Bool.and_self]
end
theorem zkB (e : Ex.E) : wf (encE e) = true := by unfold encE;simp only [wf];exact zkw e
theorem prs_eq (L : List Lx.TA) (p : Nat) : eeqs [prsE L p] [prsE L p] = true := by
 have : veqs [.list (L.map tokM),.int .i64 (p : Int)] [.list (L.map tokM),.int .i64 (p : Int)] = true := zcb (by simp only [wfs,wf,zg3,Bool.and_self])
 simp only [prsE,eeqs,eeq,this,beq_self_eq_true,Bool.and_self]
theorem oeq_r {L : List Lx.TA} {p : Nat} {v : Vm.V} (h : wf v = true) : oeq (.ret v,[prsE L p]) (.ret v,[prsE L p]) = true := by simp only [oeq,zbY h,prs_eq,Bool.and_self]
theorem oeq_p {L : List Lx.TA} {p : Nat} {v : Vm.V} (h : wf v = true) : oeq (.panic v,[prsE L p]) (.panic v,[prsE L p]) = true := by simp only [oeq,zbY h,prs_eq,Bool.and_self]
theorem OutP.ag {L : List Lx.TA} {lo : Nat} {r : Ex.R} {A : Option Out} (h : OutP L lo r A) : OutP L lo r (Vm.ag oeq A) := by
 rcases h with ⟨e,q,h1,h2,h3,h4⟩ | ⟨q,h1,h2,h3⟩
 ·exact .inl ⟨e,q,h1,h2,h3,zgf h4 (oeq_r (zkB e))⟩
 ·exact .inr ⟨q,h1,h2,zgf h3 (oeq_p rfl)⟩
end Go.Proofs.YtakegkongmnekaaDoor
namespace Go.Proofs.YtakegkongmnekaaDoor
open Go.RowKit
open Vm
variable [Gl]
section
variable {L : List Lx.TA}
structure ProgP (L : List Lx.TA) (n : Nat) : Prop where
 l0 : LvP L 31 0 n
 l1 : LvP L 47 1 n
 l2 : LvP L 57 2 n
 l3 : LvP L 71 3 n
 l4 : LvP L 81 4 n
 l5 : LvP L 88 5 n
 l6 : LvP L 93 6 n
 l7 : LvP L 94 7 n
 l8 : LvP L 95 8 n
 ls : LsP L n
end
end Go.Proofs.YtakegkongmnekaaDoor
namespace Go.Proofs.YtakegkongmnekaaDoor
open Go.RowKit
open Vm
variable [Gl]
def rdV (L : List Lx.TA) (a b w : Int) : Vm.V := .agg [.list (L.map tokM),.int .i64 a,.int .i64 b,.int .i64 w]
section
variable {Z : Type} {A : Option Z} {L : List Lx.TA} {a b w : Int}
@[simp] theorem rd_fold : Vm.V.agg [.list (L.map tokM),.int .i64 a,.int .i64 b,.int .i64 w] = rdV L a b w := rfl
@[simp] theorem rd_ck : ckA 4 (rdV L a b w) A = A := by unfold rdV;exact ckA_agg _ _ rfl rfl
@[simp] theorem rd_ag : agN 4 (rdV L a b w) = rdV L a b w := by unfold rdV;exact agN_agg _ _ rfl
@[simp] theorem rd_nm : norm1 (rdV L a b w) = rdV L a b w := rfl
@[simp] theorem rd_0 : cell (rdV L a b w) 0 = .list (L.map tokM) := rfl
@[simp] theorem rd_1 : cell (rdV L a b w) 1 = .int .i64 a := rfl
@[simp] theorem rd_2 : cell (rdV L a b w) 2 = .int .i64 b := rfl
@[simp] theorem rd_3 : cell (rdV L a b w) 3 = .int .i64 w := rfl
end
def Exs (x : Vm.V) : Prop := ∃ cs : List Vm.V,x = .agg cs ∧ cs.length = 11 ∧ cs.all Vm.V.one = true ∧ cs.map norm0 = cs ∧ wfs cs = true
theorem zbP (e : Ex.E) : Exs (encE e) := by
 have h := zkB e
 cases e
 rw [enc_mk] at h ⊢
 simp only [wf] at h
 exact ⟨_,rfl,rfl,rfl,rfl,h⟩
theorem Exs.ag {x : Vm.V} (h : Exs x) : agN 11 x = x := by obtain ⟨cs,rfl,h1,_,_⟩ := h;exact agN_agg _ _ h1
theorem Exs.nm {x : Vm.V} (h : Exs x) : norm1 x = x := by obtain ⟨cs,rfl,_,_,h3,_⟩ := h;rw [nm_a,h3]
theorem Exs.sz {x : Vm.V} (h : Exs x) : x.size = 11 := by obtain ⟨cs,rfl,h1,_,_⟩ := h;simpa [Vm.V.size,Vm.V.cells] using h1
theorem Exs.wf {x : Vm.V} (h : Exs x) : wf x = true := by obtain ⟨cs,rfl,_,_,_,h3⟩ := h;simpa only [Vm.wf] using h3
theorem Exs.rd {x : Vm.V} (h : Exs x) : argR x = .d x := by obtain ⟨cs,rfl,_⟩ := h;rfl
theorem rd_wf {L : List Lx.TA} {a b w : Int} : wf (rdV L a b w) = true := by simp only [rdV,wf,wfs,zg3,Bool.and_self]
end Go.Proofs.YtakegkongmnekaaDoor
namespace Go.Proofs.YtakegkongmnekaaDoor
open Go.RowKit
open Vm
variable [Gl]
def StR (L : List Lx.TA) (q : Nat) (o : Option Out) : Prop := ∃ (p' : Nat) (x : Vm.V),o = some (.ret (.tup [rdV L p' 20 q,x]),[]) ∧ Exs x ∧ p' ≤ L.length
def OutR (L : List Lx.TA) (lo : Nat) (r : Ex.R) (o : Option Out) : Prop := (∃ e q,r = .ok [e] q ∧ lo ≤ q ∧ q ≤ L.length ∧ o = some (.ret (.tup [rdV L q 0 0,encE e]),[])) ∨ ∃ q,r = .stop q ∧ StR L q o
theorem StR.of {L : List Lx.TA} {q : Nat} {o o' : Option Out} (h : StR L q o) (e : ∀ z,o = some z → o' = some z) : StR L q o' := by
 obtain ⟨p',x,h1,h2,h3⟩ := h
 exact ⟨p',x,e _ h1,h2,h3⟩
theorem StR.ag {L : List Lx.TA} {q : Nat} {o : Option Out} (h : StR L q o) : StR L q (ag oeq o) := by
 obtain ⟨p',x,h1,h2,h3⟩ := h
 refine ⟨p',x,zgf h1 ?_,h2,h3⟩
 have : veq (.tup [rdV L p' 20 q,x]) (.tup [rdV L p' 20 q,x]) = true := zbY (by simp only [wf,wfs,rd_wf,h2.wf,Bool.and_self])
 simp [oeq,eeqs,this]
theorem OutR.of {L : List Lx.TA} {lo : Nat} {r : Ex.R} {o o' : Option Out} (h : OutR L lo r o) (e : ∀ z,o = some z → o' = some z) : OutR L lo r o' := by
 rcases h with ⟨a,q,h1,h2,h3,h4⟩ | ⟨q,h1,h3⟩
 ·exact .inl ⟨a,q,h1,h2,h3,e _ h4⟩
 ·exact .inr ⟨q,h1,h3.of e⟩
theorem OutR.ag {L : List Lx.TA} {lo : Nat} {r : Ex.R} {o : Option Out} (h : OutR L lo r o) : OutR L lo r (ag oeq o) := by
 rcases h with ⟨a,q,h1,h2,h3,h4⟩ | ⟨q,h1,h3⟩
 ·refine .inl ⟨a,q,h1,h2,h3,zgf h4 ?_⟩
  have : veq (.tup [rdV L q 0 0,encE a]) (.tup [rdV L q 0 0,encE a]) = true := zbY (by simp only [wf,wfs,rd_wf,zkB,Bool.and_self])
  simp [oeq,eeqs,this]
 ·exact .inr ⟨q,h1,h3.ag⟩
end Go.Proofs.YtakegkongmnekaaDoor
namespace Go.Proofs.YtakegkongmnekaaDoor
open Go.RowKit
open Vm
variable [Gl]
def LsO (L : List Lx.TA) (lo : Nat) (r : Ex.R) (o : Option Out) : Prop :=
 (∃ (l : List Ex.E) (q : Nat),r = .ok l (q + 1) ∧ lo ≤ q ∧ q < L.length ∧ l.length ≤ 1000000 ∧ Ex.isT (L.map (·.1)) q 4 [41] = true ∧ o = some (.ret (.tup [rdV L q 0 0,.list (l.map encE)]),[])) ∨
 (∃ (l : List Ex.E) (q : Nat),r = .stop q ∧ q ≤ L.length ∧ l.length ≤ 1000000 ∧ Ex.isT (L.map (·.1)) q 4 [41] = false ∧ o = some (.ret (.tup [rdV L q 0 0,.list (l.map encE)]),[])) ∨
 ∃ (p' q : Nat) (xs : List Vm.V),r = .stop q ∧ p' ≤ L.length ∧ xs.length ≤ 1000001 ∧ (∀ x ∈ xs,Exs x) ∧ o = some (.ret (.tup [rdV L p' 20 q,.list xs]),[])
theorem LsO.of {L : List Lx.TA} {lo lo' : Nat} {r : Ex.R} {o o' : Option Out} (h : LsO L lo r o) (hl : lo' ≤ lo) (e : ∀ z,o = some z → o' = some z) : LsO L lo' r o' := by
 rcases h with ⟨l,q,h1,h2,h3,h4,h5,h6⟩ | ⟨l,q,h1,h2,h3,h4,h5⟩ | ⟨p',q,xs,h1,h2,h3,h4,h5⟩
 ·exact .inl ⟨l,q,h1,by omega,h3,h4,h5,e _ h6⟩
 ·exact .inr (.inl ⟨l,q,h1,h2,h3,h4,e _ h5⟩)
 ·exact .inr (.inr ⟨p',q,xs,h1,h2,h3,h4,e _ h5⟩)
end Go.Proofs.YtakegkongmnekaaDoor
namespace Go.Proofs.YtakegkongmnekaaDoor
open Go.RowKit
open Vm
variable [Gl]
section
variable {L : List Lx.TA} {n : Nat}
theorem OutR.pass {lo lo' : Nat} {r : Ex.R} {f : FuncId} {a : List Vm.V} {Kp K : Vm.V → Option Out} (h : OutR L lo' r (pr.ev f a [])) (hlo : lo ≤ lo') (hs : ∀ (p' : Nat) (b q : Int) x,Exs x → K (.tup [rdV L p' b q,x]) = some (.ret (.tup [rdV L p' b q,x]),[])) : OutR L lo r (cl0 pr.ev f a Kp K) := by
 rcases h with ⟨e,q,rfl,h4,h5,h6⟩ | ⟨q,rfl,p',x,h4,h5,h6⟩
 ·rw [zah h6]
  exact .inl ⟨e,q,rfl,by omega,h5,hs q 0 0 _ (zbP e)⟩
 ·rw [zah h4]
  exact .inr ⟨q,rfl,p',x,hs p' 20 q x h5,h5,h6⟩
end
end Go.Proofs.YtakegkongmnekaaDoor
namespace Ox
open Lx
def plain (c : UInt8) : Bool := c.toNat != 32 && c.toNat != 10 && c.toNat != 35
def sep (ws : List S) : S := ws.flatMap fun w => 32 :: w
end Ox
