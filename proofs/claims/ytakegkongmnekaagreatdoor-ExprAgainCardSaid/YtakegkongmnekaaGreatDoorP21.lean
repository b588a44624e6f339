/- Part of the proof: see the last text. -/
import Derived.Test.YtakegkongmnekaaGreatDoorP0
set_option maxRecDepth 20000
set_option linter.unusedVariables false
set_option linter.unusedSimpArgs false
namespace Ox
open Lx
abbrev S := List UInt8
structure Key where
 col : Int
 coll : Int
 desc : Bool
deriving DecidableEq
structure Op where
 code : Int
 p1 : Int
 p2 : Int
 p3 : Int
 vk : Int
 vn : Int
 vs : S
 keys : List Key
 name : S
deriving DecidableEq
def names : List S := [[104, 97, 108, 116], [106, 117, 109, 112], [105, 102], [105, 102, 110, 111, 116], [118, 97, 108, 117, 101], [99, 111, 112, 121], [116, 97, 98, 108, 101], [105, 110, 100, 101, 120], [102, 105, 114, 115, 116], [110, 101, 120, 116], [115, 101, 101, 107, 103, 101], [115, 101, 101, 107, 103, 116], [115, 116, 111, 112, 103, 116], [115, 116, 111, 112, 103, 101], [99, 111, 108], [102, 105, 110, 100], [117, 110], [98, 105, 110], [102, 110], [99, 97, 115, 116], [114, 111, 119], [115, 111, 114, 116], [115, 111, 114, 116, 112, 117, 116], [115, 111, 114, 116, 116, 111, 112], [115, 111, 114, 116, 110, 101, 120, 116], [115, 111, 114, 116, 99, 111, 108], [115, 101, 116], [115, 101, 101, 110], [104, 97, 115], [97, 103, 103], [97, 103, 103, 97, 100, 100], [97, 103, 103, 101, 110, 100], [99, 111, 117, 110, 116], [115, 97, 109, 101]]
def forms : List S := [[46, 46, 46, 46, 46, 46], [46, 112, 46, 46, 46, 46], [114, 112, 46, 46, 46, 46], [114, 112, 46, 46, 46, 46], [46, 114, 46, 118, 46, 46], [114, 114, 46, 46, 46, 46], [116, 46, 46, 46, 110, 46], [116, 46, 46, 46, 110, 46], [116, 112, 46, 46, 46, 46], [116, 112, 46, 46, 46, 46], [116, 112, 114, 109, 46, 46], [116, 112, 114, 109, 46, 46], [116, 112, 114, 109, 46, 46], [116, 112, 114, 109, 46, 46], [116, 99, 114, 46, 46, 46], [116, 112, 114, 46, 46, 46], [114, 114, 46, 46, 117, 46], [114, 114, 114, 46, 98, 46], [114, 114, 109, 46, 110, 46], [114, 114, 46, 46, 99, 46], [114, 109, 46, 46, 46, 46], [116, 46, 46, 46, 46, 107], [116, 114, 109, 46, 46, 46], [116, 112, 46, 46, 46, 46], [116, 112, 46, 46, 46, 46], [116, 99, 114, 46, 46, 46], [116, 46, 46, 46, 46, 46], [116, 112, 114, 109, 46, 46], [116, 112, 114, 109, 46, 46], [116, 98, 46, 46, 97, 46], [116, 114, 46, 46, 46, 46], [116, 114, 46, 46, 46, 46], [114, 112, 46, 46, 46, 46], [114, 112, 114, 109, 46, 46]]
def shapes : List S := [[46, 46, 46, 46, 46, 46], [46, 106, 46, 46, 46, 46], [114, 106, 46, 46, 46, 46], [114, 106, 46, 46, 46, 46], [46, 114, 46, 118, 46, 46], [114, 114, 46, 46, 46, 46], [99, 46, 46, 46, 116, 46], [99, 46, 46, 46, 116, 46], [99, 106, 46, 46, 46, 46], [99, 106, 46, 46, 46, 46], [99, 106, 114, 109, 46, 46], [99, 106, 114, 109, 46, 46], [99, 106, 114, 109, 46, 46], [99, 106, 114, 109, 46, 46], [99, 107, 114, 46, 46, 46], [99, 106, 114, 46, 46, 46], [114, 114, 46, 46, 117, 46], [114, 114, 114, 46, 98, 46], [114, 114, 110, 46, 102, 46], [114, 114, 46, 46, 121, 46], [114, 110, 46, 46, 46, 46], [99, 46, 46, 46, 46, 107], [99, 114, 110, 46, 46, 46], [99, 106, 46, 46, 46, 46], [99, 106, 46, 46, 46, 46], [99, 107, 114, 46, 46, 46], [99, 46, 46, 46, 46, 46], [99, 106, 114, 109, 46, 46], [99, 106, 114, 109, 46, 46], [99, 98, 46, 46, 97, 46], [99, 114, 46, 46, 46, 46], [99, 114, 46, 46, 46, 46], [114, 106, 46, 46, 46, 46], [114, 106, 114, 109, 46, 46]]
def form (c : Int) : S := (forms[c.toNat]?).getD []
def shape (c : Int) : S := (shapes[c.toNat]?).getD []
def nameOf (c : Int) : S := if decide (c < 0) || decide (33 < c) then [] else (names[c.toNat]?).getD []
def at_ (f : S) (i : Nat) : UInt8 := (f[i]?).getD 0
def zoH (k : UInt8) (n many : Int) : Bool :=
 if k.toNat = 114 then decide (0 ≤ n) && decide (n < 1024)
 else if k.toNat = 112 then decide (0 ≤ n) && decide (n ≤ many)
 else if k.toNat = 116 ∨ k.toNat = 99 then decide (0 ≤ n) && decide (n < 64)
 else if k.toNat = 109 then decide (0 ≤ n) && decide (n ≤ 1024)
 else if k.toNat = 98 then decide (n = 0) || decide (n = 1)
 else decide (n = 0)
def valued (k : UInt8) (vk vn : Int) (vs : S) : Bool :=
 if k.toNat = 118 then !(decide (vk < 0) || decide (3 < vk) || (decide (vk ≠ 1) && decide (vn ≠ 0)) || (decide (vk < 2) && decide (vs ≠ []))) && decide (vs.length ≤ 4096)
 else if k.toNat = 109 then decide (vk = 1) && decide (vs = []) && decide (1 ≤ vn) && decide (vn ≤ 1024)
 else decide (vk = 0) && decide (vn = 0) && decide (vs = [])
def opsU : List S := [[45], [43], [110, 111, 116]]
def opsB : List S := [[124, 124], [42], [47], [37], [43], [45], [61], [60, 62], [60], [60, 61], [62], [62, 61], [97, 110, 100], [111, 114]]
def opsC : List S := [[105, 110, 116], [116, 101, 120, 116], [98, 108, 111, 98]]
def opsA : List S := [[99, 111, 117, 110, 116], [115, 117, 109], [109, 105, 110], [109, 97, 120], [97, 118, 103], [116, 111, 116, 97, 108]]
def named (k : UInt8) (s : S) : Bool :=
 if k.toNat = 110 then zdp s
 else if k.toNat = 117 then opsU.contains s
 else if k.toNat = 98 then opsB.contains s
 else if k.toNat = 99 then opsC.contains s
 else if k.toNat = 97 then opsA.contains s
 else s.isEmpty
def keyOk (k : Key) : Bool := decide (0 ≤ k.col) && decide (k.col < 64) && decide (0 ≤ k.coll) && decide (k.coll ≤ 1)
def keyed (k : UInt8) (l : List Key) : Bool :=
 if k.toNat = 107 then l.all keyOk && decide (l.length ≤ 64) else decide (l.length = 0)
def sevC (c : Int) : Bool := decide (c = 10) || decide (c = 11) || decide (c = 12) || decide (c = 13) || decide (c = 27) || decide (c = 28)
def zo8 (o : Op) : List Int × Int :=
 if sevC o.code then ([o.p3], o.vn)
 else if o.code = 33 then ([o.p1, o.p3], o.vn)
 else if o.code = 18 then ([o.p1], o.p3)
 else if o.code = 20 then ([o.p1], o.p2)
 else if o.code = 22 then ([o.p2], o.p3)
 else ([], 0)
def formed (o : Op) (many : Int) : Bool :=
 zoH (at_ (form o.code) 0) o.p1 many && zoH (at_ (form o.code) 1) o.p2 many && zoH (at_ (form o.code) 2) o.p3 many &&
 valued (at_ (form o.code) 3) o.vk o.vn o.vs && named (at_ (form o.code) 4) o.name && keyed (at_ (form o.code) 5) o.keys
def coded (o : Op) : Bool := decide (0 ≤ o.code) && decide (o.code ≤ 33)
def right (o : Op) (many : Int) : Bool := coded o && formed o many && (zo8 o).1.all (fun r => decide (r + (zo8 o).2 ≤ 1024))
def wrongL (many : Int) : List Op → Int → Int
 | [], _ => -1
 | o :: r, i => if right o many then wrongL many r (i + 1) else i
def wrong (l : List Op) : Int := wrongL l.length l 0
def check (l : List Op) : Int := if 8192 < l.length then 3 else if 0 ≤ wrong l then 1 else 0
def numN (m : Nat) : S := if m < 10 then [UInt8.ofNat (48 + m)] else numN (m / 10) ++ [UInt8.ofNat (48 + m % 10)]
def num (n : Int) : S := if n < 0 then 45 :: numN n.natAbs else numN n.natAbs
def hexD (n : Nat) : UInt8 := (hexs[n]?).getD 0
def hex : S → S
 | [] => []
 | c :: r => hexD (c.toNat / 16) :: hexD (c.toNat % 16) :: hex r
def valS (vk vn : Int) (vs : S) : S :=
 if vk = 1 then num vn else if vk = 2 then [116, 39] ++ hex vs ++ [39] else if vk = 3 then [120, 39] ++ hex vs ++ [39] else [110, 117, 108, 108]
def keyS (k : Key) : S := num k.col ++ (if k.desc then [100] else [97]) ++ (if k.coll = 1 then [110] else [98])
def partN (c : UInt8) (n : Int) : S := if c.toNat = 46 then [] else 32 :: num n
def partV (c : UInt8) (vk vn : Int) (vs : S) : S := if c.toNat = 46 then [] else 32 :: valS vk vn vs
def partS (c : UInt8) (s : S) : S := if c.toNat = 46 then [] else 32 :: s
def keysS (l : List Key) : S := l.flatMap fun k => 32 :: keyS k
def line (o : Op) : S :=
 (names[o.code.toNat]?).getD [] ++ partN (at_ (form o.code) 0) o.p1 ++ partN (at_ (form o.code) 1) o.p2 ++ partN (at_ (form o.code) 2) o.p3 ++
 partV (at_ (form o.code) 3) o.vk o.vn o.vs ++ partS (at_ (form o.code) 4) o.name ++ keysS o.keys
def lines (l : List Op) : S := l.flatMap fun o => line o ++ [10]
def print (l : List Op) : S := if check l = 0 then lines l else []
def consH (p : S) : List S → List S
 | [] => [p]
 | h :: t => (p ++ h) :: t
def split (c : UInt8) : S → List S
 | [] => [[]]
 | x :: r => if x == c then [] :: split c r else consH [x] (split c r)
def zm7 (s : S) : Int × Bool := ((read s).1, decide ((read s).2 = 0) && decide (0 ≤ (read s).1) && decide ((read s).1 ≤ 999999999))
def unhexP : S → Option S
 | [] => some []
 | [_] => some []
 | a :: b :: r => match rnib a, rnib b, unhexP r with
  | some x, some y, some t => some (UInt8.ofNat (16 * x + y) :: t)
  | _, _, _ => none
def unhex (s : S) : S × Bool := match unhexP s with
 | none => ([], false)
 | some t => (t, decide (s.length % 2 = 0))
abbrev V := Int × Int × S
def unval (s : S) : V × Bool :=
 if s = [110, 117, 108, 108] then ((0, 0, []), true)
 else if decide (3 ≤ s.length) && at_ s 1 == 39 && at_ s (s.length - 1) == 39 && (at_ s 0 == 116 || at_ s 0 == 120) then
  ((if at_ s 0 == 120 then 3 else 2, 0, (unhex ((s.drop 2).take (s.length - 3))).1), (unhex ((s.drop 2).take (s.length - 3))).2)
 else ((1, (read s).1, []), decide ((read s).2 = 0))
def unkeyK (s : S) : Key := ⟨(zm7 (s.take (s.length - 2))).1, if at_ s (s.length - 1) == 110 then 1 else 0, at_ s (s.length - 2) == 100⟩
def unkey (s : S) : Key × Bool :=
 if s.length < 3 then (⟨0, 0, false⟩, false) else (unkeyK s, (zm7 (s.take (s.length - 2))).2 && keyS (unkeyK s) == s)
abbrev W := List S × Bool
def nxS (w : W) : S := w.1.headD []
def nxW (w : W) : W := match w.1 with | [] => ([], false) | _ :: r => (r, w.2)
def numSt (c : UInt8) (p : Int) (w : W) : Int × W :=
 if c.toNat = 46 then (p, w) else ((zm7 (nxS w)).1, ((nxW w).1, (nxW w).2 && (zm7 (nxS w)).2))
def valOk (c : UInt8) (v : V × Bool) : Bool := if c.toNat = 109 then v.2 && decide (v.1.1 = 1) && decide (0 ≤ v.1.2.1) && decide (v.1.2.1 ≤ 999999999) else v.2
def valSt (c : UInt8) (v : V) (w : W) : V × W :=
 if c.toNat = 46 then (v, w) else ((unval (nxS w)).1, ((nxW w).1, (nxW w).2 && valOk c (unval (nxS w))))
def nameSt (c : UInt8) (s : S) (w : W) : S × W :=
 if c.toNat = 46 then (s, w) else (nxS w, ((nxW w).1, (nxW w).2 && named c (nxS w)))
def keySt : List S → Bool → List Key → List Key × Bool
 | [], ok, acc => (acc, ok)
 | s :: r, ok, acc => keySt r (ok && (unkey s).2) (acc ++ [(unkey s).1])
def keysSt (c : UInt8) (l : List Key) (w : W) : List Key × W :=
 if c.toNat = 107 then ((keySt w.1 w.2 l).1, ([], (keySt w.1 w.2 l).2)) else (l, w)
def fill (o : Op) (w : W) : Op × W :=
 let f := form o.code
 let a := numSt (at_ f 0) o.p1 w
 let b := numSt (at_ f 1) o.p2 a.2
 let c := numSt (at_ f 2) o.p3 b.2
 let d := valSt (at_ f 3) (o.vk, o.vn, o.vs) c.2
 let e := nameSt (at_ f 4) o.name d.2
 let k := keysSt (at_ f 5) o.keys e.2
 (⟨o.code, a.1, b.1, c.1, d.1.1, d.1.2.1, d.1.2.2, k.1, e.1⟩, k.2)
abbrev PR := List Op × Int × Int
def fin (l : List Op) : PR := if 8192 < l.length then ([], 8192, 3) else if 0 ≤ wrong l then ([], wrong l, 1) else (l, 0, 0)
end Ox
