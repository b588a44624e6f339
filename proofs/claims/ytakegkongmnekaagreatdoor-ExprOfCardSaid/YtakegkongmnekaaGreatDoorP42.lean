/- Part of the proof: see the last text. -/
import Derived.Test.YtakegkongmnekaaGreatDoorP0
import Derived.Test.YtakegkongmnekaaGreatDoorP25
import Derived.Test.YtakegkongmnekaaGreatDoorP41
set_option maxRecDepth 20000
set_option linter.unusedVariables false
set_option linter.unusedSimpArgs false
namespace Go.Proofs.YtakegkongmnekaaGreatDoor
open Go.RowKit
open Vm Go.Shelf
def shRen : Go.Shelf.Ren := ⟨fun n => match n with | 138 => 106 | 143 => 107 | 154 => 86 | 155 => 51 | 156 => 53 | 165 => 87 | 166 => 88 | 169 => 89 | 195 => 126 | 197 => 108 | 217 => 139 | 218 => 127 | 219 => 128 | 224 => 141 | 225 => 140 | 240 => 109 | 241 => 110 | 260 => 129 | 266 => 146 | 267 => 142 | 276 => 130 | 277 => 131 | 314 => 147 | _ => 0, fun n => match n with | 0 => 0 | 3 => 3 | 4 => 4 | 5 => 5 | 9 => 9 | 20 => 20 | 21 => 21 | 31 => 74 | 37 => 97 | 46 => 101 | 51 => 150 | 70 => 102 | 72 => 104 | 75 => 107 | 76 => 108 | 80 => 110 | 105 => 126 | 119 => 146 | 127 => 128 | 138 => 148 | 139 => 149 | 146 => 151 | 164 => 136 | _ => 0, fun n => match n with | 1 => 0 | 3 => 1 | 4 => 2 | _ => 0⟩
theorem zjD : Lays.n156 Tryz.prog shRen := {
 mixed := by kernel_rfl
 f156 := by kernel_rfl
 f165 := by kernel_rfl
 f166 := by kernel_rfl
 f169 := by kernel_rfl
 f240 := by kernel_rfl
 f241 := by kernel_rfl
 f276 := by kernel_rfl
 f277 := by kernel_rfl
 t0 := by kernel_rfl
 a0 := fun _ => by kernel_rfl
 z0 := fun _ => by kernel_rfl
 v0 := fun _ => by kernel_rfl
 t3 := by kernel_rfl
 a3 := fun _ => by kernel_rfl
 z3 := fun _ => by kernel_rfl
 v3 := fun _ => by kernel_rfl
 t4 := by kernel_rfl
 a4 := fun _ => by kernel_rfl
 z4 := fun _ => by kernel_rfl
 v4 := fun _ => by kernel_rfl
 t9 := by kernel_rfl
 a9 := fun _ => by kernel_rfl
 z9 := fun _ => by kernel_rfl
 v9 := fun _ => by kernel_rfl
 t20 := by kernel_rfl
 a20 := fun _ => by kernel_rfl
 z20 := fun _ => by kernel_rfl
 v20 := fun _ => by kernel_rfl
 t31 := by kernel_rfl
 a31 := fun _ => by kernel_rfl
 z31 := fun _ => by kernel_rfl
 v31 := fun _ => by kernel_rfl
 t37 := by kernel_rfl
 a37 := fun _ => by kernel_rfl
 z37 := fun _ => by kernel_rfl
 v37 := fun _ => by kernel_rfl
 t70 := by kernel_rfl
 a70 := fun _ => by kernel_rfl
 z70 := fun _ => by kernel_rfl
 v70 := fun _ => by kernel_rfl
 t72 := by kernel_rfl
 a72 := fun _ => by kernel_rfl
 z72 := fun _ => by kernel_rfl
 v72 := fun _ => by kernel_rfl
 t75 := by kernel_rfl
 a75 := fun _ => by kernel_rfl
 z75 := fun _ => by kernel_rfl
 v75 := fun _ => by kernel_rfl
 t76 := by kernel_rfl
 a76 := fun _ => by kernel_rfl
 z76 := fun _ => by kernel_rfl
 v76 := fun _ => by kernel_rfl
 t127 := by kernel_rfl
 a127 := fun _ => by kernel_rfl
 z127 := fun _ => by kernel_rfl
 v127 := fun _ => by kernel_rfl
 t164 := by kernel_rfl
 a164 := fun _ => by kernel_rfl
 z164 := fun _ => by kernel_rfl
 v164 := fun _ => by kernel_rfl }
theorem lay_n155 : Lays.n155 Tryz.prog shRen := {
 mixed := by kernel_rfl
 f138 := by kernel_rfl
 f143 := by kernel_rfl
 f154 := by kernel_rfl
 f155 := by kernel_rfl
 f165 := by kernel_rfl
 f166 := by kernel_rfl
 f169 := by kernel_rfl
 f195 := by kernel_rfl
 f197 := by kernel_rfl
 f217 := by kernel_rfl
 f218 := by kernel_rfl
 f219 := by kernel_rfl
 f224 := by kernel_rfl
 f225 := by kernel_rfl
 f240 := by kernel_rfl
 f241 := by kernel_rfl
 f260 := by kernel_rfl
 f266 := by kernel_rfl
 f267 := by kernel_rfl
 f276 := by kernel_rfl
 f277 := by kernel_rfl
 f314 := by kernel_rfl
 t0 := by kernel_rfl
 a0 := fun _ => by kernel_rfl
 z0 := fun _ => by kernel_rfl
 v0 := fun _ => by kernel_rfl
 t3 := by kernel_rfl
 a3 := fun _ => by kernel_rfl
 z3 := fun _ => by kernel_rfl
 v3 := fun _ => by kernel_rfl
 t4 := by kernel_rfl
 a4 := fun _ => by kernel_rfl
 z4 := fun _ => by kernel_rfl
 v4 := fun _ => by kernel_rfl
 t5 := by kernel_rfl
 a5 := fun _ => by kernel_rfl
 z5 := fun _ => by kernel_rfl
 v5 := fun _ => by kernel_rfl
 t9 := by kernel_rfl
 a9 := fun _ => by kernel_rfl
 z9 := fun _ => by kernel_rfl
 v9 := fun _ => by kernel_rfl
 t20 := by kernel_rfl
 a20 := fun _ => by kernel_rfl
 z20 := fun _ => by kernel_rfl
 v20 := fun _ => by kernel_rfl
 t21 := by kernel_rfl
 a21 := fun _ => by kernel_rfl
 z21 := fun _ => by kernel_rfl
 v21 := fun _ => by kernel_rfl
 t37 := by kernel_rfl
 a37 := fun _ => by kernel_rfl
 z37 := fun _ => by kernel_rfl
 v37 := fun _ => by kernel_rfl
 t46 := by kernel_rfl
 a46 := fun _ => by kernel_rfl
 z46 := fun _ => by kernel_rfl
 v46 := fun _ => by kernel_rfl
 t51 := by kernel_rfl
 a51 := fun _ => by kernel_rfl
 z51 := fun _ => by kernel_rfl
 v51 := fun _ => by kernel_rfl
 t70 := by kernel_rfl
 a70 := fun _ => by kernel_rfl
 z70 := fun _ => by kernel_rfl
 v70 := fun _ => by kernel_rfl
 t72 := by kernel_rfl
 a72 := fun _ => by kernel_rfl
 z72 := fun _ => by kernel_rfl
 v72 := fun _ => by kernel_rfl
 t75 := by kernel_rfl
 a75 := fun _ => by kernel_rfl
 z75 := fun _ => by kernel_rfl
 v75 := fun _ => by kernel_rfl
 t76 := by kernel_rfl
 a76 := fun _ => by kernel_rfl
 z76 := fun _ => by kernel_rfl
 v76 := fun _ => by kernel_rfl
 t105 := by kernel_rfl
 a105 := fun _ => by kernel_rfl
 z105 := fun _ => by kernel_rfl
 v105 := fun _ => by kernel_rfl
 t119 := by kernel_rfl
 a119 := fun _ => by kernel_rfl
 z119 := fun _ => by kernel_rfl
 t127 := by kernel_rfl
 a127 := fun _ => by kernel_rfl
 z127 := fun _ => by kernel_rfl
 v127 := fun _ => by kernel_rfl
 t138 := by kernel_rfl
 a138 := fun _ => by kernel_rfl
 z138 := fun _ => by kernel_rfl
 v138 := fun _ => by kernel_rfl
 t139 := by kernel_rfl
 a139 := fun _ => by kernel_rfl
 z139 := fun _ => by kernel_rfl
 v139 := fun _ => by kernel_rfl
 t146 := by kernel_rfl
 a146 := fun _ => by kernel_rfl
 z146 := fun _ => by kernel_rfl
 v146 := fun _ => by kernel_rfl
 t164 := by kernel_rfl
 a164 := fun _ => by kernel_rfl
 z164 := fun _ => by kernel_rfl
 v164 := fun _ => by kernel_rfl
 g1 := by kernel_rfl
 g3 := by kernel_rfl
 g4 := by kernel_rfl }
theorem zgJ : Builder.Extra Tryz.prog shRen := {
 sizeBuilder := by kernel_rfl
 liesBuilder := by kernel_rfl
 t5 := by kernel_rfl
 a5 := fun _ => by kernel_rfl
 z5 := fun _ => by kernel_rfl
 v5 := fun _ => by kernel_rfl
 infoByte := by kernel_rfl
 cellsByte := by kernel_rfl
 sizeByte := by kernel_rfl
 neB5 := by decide }
theorem zgs {P : Program} {G : Nat → Vm.V} {f : FuncId} {args : List Vm.V} {R : POut → Prop} (hen : zfl P f = true) (hd : args.all V.data = true)
  (h : ∀ (w : World) (A : Nat → Nat → Prop) (vals : Array Value), (∀ b o, A b o → b < w.heap.size) → RepL w A args vals.toList → (∀ g, G g = .any ∨ RepV w A (G g) (.pointer (some ⟨g, 0, none⟩))) → Calls P f vals w fun e w' => Below w.heap.size w w' ∧ ∃ o, R o ∧ OutRep w' A o e) : zaN P G f args [] fun o es => R o ∧ es = [] := by
 refine ⟨hen, fun w H A vals m hv => Calls.mono (h w A vals m.al (zen hv hd) m.glo) fun e w' ⟨hb, o, hR, ho⟩ => ?_⟩
 exact ⟨o, [], H, A, ⟨hR, rfl⟩, rfl, fun e he => by simp at he, m.below hb, ho⟩
theorem repL_2s {w : World} {A : Nat → Nat → Prop} {x : Vm.V} {s : List UInt8} {vals : Array Value} (h : RepL w A [x, .str s] vals.toList) : ∃ v, vals = #[v, .string (Lx.bs s)] ∧ RepV w A x v := by
 obtain ⟨l⟩ := vals
 cases h with
 | cons _ _ v vs h1 h2 =>
  cases h2 with
  | cons _ _ v' vs' h3 h4 =>
   cases h3
   cases h4
   exact ⟨v, rfl, h1⟩
theorem repL_3s {w : World} {A : Nat → Nat → Prop} {a b c : List UInt8} {vals : Array Value} (h : RepL w A [.str a, .str b, .str c] vals.toList) : vals = #[.string (Lx.bs a), .string (Lx.bs b), .string (Lx.bs c)] := by
 obtain ⟨l⟩ := vals
 cases h with
 | cons _ _ v vs h1 h2 =>
  cases h2 with
  | cons _ _ v' vs' h3 h4 =>
   cases h4 with
   | cons _ _ v'' vs'' h5 h6 =>
    cases h1
    cases h3
    cases h5
    cases h6
    rfl
theorem zie {w : World} {A : Nat → Nat → Prop} : ∀ {xs : List (List UInt8)} {z : Nat} {vs : List Value}, RepE w A z (xs.map Vm.V.str) vs → vs = xs.map fun s => Value.string (Lx.bs s)
 | [], z, vs, h => by cases h; rfl
 | x :: xs, z, vs, h => by
  cases h with
  | cons _ _ _ us ws h0 h1 h2 =>
   cases h1 with
   | one _ v h3 h4 =>
    cases h4
    rw [zie h2]
    rfl
theorem zmO (xs : List (List UInt8)) (sep : List UInt8) : Lib.join ((xs.map Lx.bs).map (·.data.toList)) (Lx.bs sep).data.toList = Lib.join xs sep := by
 have e : (xs.map Lx.bs).map (·.data.toList) = xs := by
  rw [List.map_map]
  conv => rhs; rw [← List.map_id xs]
  exact List.map_congr_left fun x _ => Lx.zbd x
 rw [e, show (Lx.bs sep).data.toList = sep from Lx.zbd sep]
theorem bs_join (xs : List (List UInt8)) (sep : List UInt8) : (⟨(Lib.join ((xs.map Lx.bs).map (·.data.toList)) (Lx.bs sep).data.toList).toArray⟩ : ByteArray) = Lx.bs (Lib.join xs sep) := by
 rw [zmO]; rfl
theorem zoE {w w' : World} {A : Nat → Nat → Prop} {f : FuncId} {vals : Array Value} {e : Ending} {t : List UInt8} {b : ByteArray} (hb : b = Lx.bs t) (h : e = .returned (.string b) ∧ Below w.heap.size w w') : Below w.heap.size w w' ∧ ∃ o, o = POut.ret (.str t) ∧ OutRep w' A o e := by
 obtain ⟨rfl, h2⟩ := h
 subst hb
 exact ⟨h2, _, rfl, _, rfl, .str t⟩
theorem m_Join {G : Nat → Vm.V} {xs : List (List UInt8)} {sep : List UInt8} (hN : xs.length ≤ 1000000) (h : (Lib.join xs sep).length ≤ 1000000000) : Ret Tryz.prog G 53 [.list (xs.map Vm.V.str), .str sep] (.str (Lib.join xs sep)) := by
 refine zbz (by kernel_rfl) rfl fun w A vals hA hv => ?_
 obtain ⟨v, hvv, hx⟩ := repL_2s hv
 subst hvv
 clear hv
 have hj := bs_join xs sep
 generalize hl : xs.map Vm.V.str = l at hx
 cases hx with
 | nil a c =>
  obtain rfl : xs = [] := List.map_eq_nil_iff.1 hl
  refine Calls.mono (Any.strings_Join_none zjD zgJ a c (Lx.bs sep) w) fun e w' h => ?_
  obtain ⟨rfl, rfl⟩ := h
  exact ⟨Below.refl _ _, _, rfl, _, rfl, .str []⟩
 | list _ z b off c vs h1 h2 h3 h4 h5 =>
  subst hl
  have hvs := zie h2
  subst hvs
  rw [List.length_map] at h4 ⊢
  match xs, h1, h3, h4, hN, h, hj with
  | [x], h1, h3, h4, hN, h, hj =>
   refine Calls.mono (Any.strings_Join_one zjD zgJ b off c (Lx.bs x) (Lx.bs sep) w (h3.2 0 _ rfl).1) fun e w' h => ?_
   obtain ⟨rfl, rfl⟩ := h
   refine ⟨Below.refl _ _, _, rfl, _, rfl, ?_⟩
   rw [Lib.join_one]
   exact .str x
  | x :: y :: r, h1, h3, h4, hN, h, hj =>
   have hlen : (x :: y :: r).length = ((x :: y :: r).map Lx.bs).length := by rw [List.length_map]
   rw [hlen] at hN h4 ⊢
   refine Calls.mono (Any.strings_Join_many zjD zgJ b off c ((x :: y :: r).map Lx.bs) (Lx.bs sep) w ?_ h3.1 (by simp) (by omega) h4 ?_) fun e w' h => zoE (f := 0) (vals := #[]) hj h
   ·intro j u hu
    refine (h3.2 j (.string u) ?_).1
    rw [List.getElem?_map] at hu ⊢
    cases hx : (x :: y :: r)[j]? with
    | none => rw [hx] at hu; cases hu
    | some t => rw [hx] at hu; simp at hu; subst hu; rfl
   ·rw [zmO]; omega
theorem zkB {G : Nat → Vm.V} {m : Int} (hG : G (shRen.g 1) = .ip (.int .i64 m) 0) {s : List UInt8} (hs : s.length ≤ 1000000) : Ret Tryz.prog G 51 [.str s, .str [39], .str [39, 39]] (.str (Ex.zdq s)) := by
 refine zgs (by kernel_rfl) rfl fun w A vals hA hv hg => ?_
 obtain rfl := repL_3s hv
 have hm : w.cell? ⟨shRen.g 1, 0, none⟩ = some (.int .i64 m) := by
  rcases hg (shRen.g 1) with h | h
  ·rw [hG] at h; cases h
  ·rw [hG] at h
   generalize hp : (Value.pointer (some ⟨shRen.g 1, 0, none⟩)) = p at h
   cases h with
   | ip _ _ b o vs h1 h2 =>
    cases hp
    cases h1 with
    | one _ v h3 h4 =>
     cases h4
     exact (h2.2 0 _ rfl).1
 have hsz : (Lx.bs s).size = s.length := Lx.zaA s
 have hc := Lib.countB_le (Lx.bs [39]) (by decide) s.length (Lx.bs s) (by omega)
 refine Calls.mono (Any.strings_ReplaceAll lay_n155 zgJ (Lx.bs s) (Lx.bs [39]) (Lx.bs [39, 39]) m w (by omega) hm (by decide) ?_) fun e w' h => zoE (f := 0) (vals := #[]) ?_ h
 ·rw [show (Lx.bs [39, 39]).size = 2 from rfl]; omega
 ·have e1 : (Lx.bs s).data.toList = s := Lx.zbd s
  rw [e1]
  show _ = Lx.bs (Ex.zdq s)
  rw [← Ex.zm8]; rfl
end Go.Proofs.YtakegkongmnekaaGreatDoor
namespace Go.Proofs.YtakegkongmnekaaGreatDoor
open Go.RowKit
open Go.ChangeShapes Go.WideShapes Go.ChangeAt
section
variable {H : Type} {enc : TypeId × Value → H} {P : Program}
theorem zm9 {f : Func} {s : ChangeSpec} {apart fresh handsOn again : Bool} {W W' : World} {args : Array Value} {v : Value} {ds gs : List (DataW H)} {before pa pv : List MemPlace}
  (hW : DataW.Whole enc P f.params.toList s.vars apart W args.toList ds gs before)
  (hres : ∀ (b : Nat) (sp : Nat → Bool) (hd : Bool), DataW.TrodAll enc P W' b sp hd f.resultTypes.toList (v.resultList f.resultTypes.size) (s.fn H (ds ++ gs)).results [])
  (hargs : ∀ sp : Nat → Bool, (∀ p ∈ before, sp p.block = true) → DataW.TrodAll enc P W' 0 sp true f.params.toList args.toList (s.fn H (ds ++ gs)).args pa)
  (hvars : ∀ sp : Nat → Bool, (∀ p ∈ before, sp p.block = true) → DataW.TrodVars enc P W' sp s.vars (s.fn H (ds ++ gs)).vars pv)
  (hps : before = pa ++ pv) (hb : Below W.heap.size W W')
  (hok : ∀ (j : Nat) (t : TypeId) (r : Value), f.resultTypes[j]? = some t → (v.resultList f.resultTypes.size)[j]? = some r → Value.okWide P W' .any 0 t r) :
  s.post enc P f apart fresh handsOn again W args v W' := by
 have old : ∀ p ∈ before, p.block < W.heap.size := fun p hp => hW.lt p hp
 have hold : ∀ p ∈ before, (fun b => decide (b < W.heap.size)) p.block = true := fun p hp => by simpa using old p hp
 have mem : ∀ p, p ∈ before ↔ p ∈ pa ∨ p ∈ pv := fun p => by rw [hps, List.mem_append]
 refine ⟨ds, gs, before, [], pa, pv, hW, hres _ _ _, hargs _ hold, hvars _ hold, World.keptBut_mono (fun p hp => ⟨hp, .inr ((mem p).1 hp)⟩) (hb.frame _), fun _ => ?_⟩
 obtain ⟨_, _, _, _, _, hz, hn⟩ := hW
 refine ⟨hok, _, _, ([] ++ pa) ++ pv, ⟨[] ++ pa, pv, trodAll_append (hargs _ (fun _ _ => rfl)) (hres _ _ _), hvars _ (fun _ _ => rfl), rfl, fun b off hp => ?_, fun ha => ?_⟩, fun p hp _ => ?_⟩
 ·have hp' : MemPlace.cell b off ∈ before := by rw [hps]; simpa using hp
  rw [hb.frozen (p := ⟨b, off, none⟩) (old _ hp')]
  exact hz b off hp'
 ·have := hn ha
  rw [hps] at this
  simpa using this
 ·rw [hps]
  simpa using hp
end
end Go.Proofs.YtakegkongmnekaaGreatDoor
