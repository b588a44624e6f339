import Derived.Test.YtoekddkkjbcicaaDoorOpZ
import Derived.Test.YtoekddkkjbcicaaDoorOqC
import Derived.Test.YtoekddkkjbcicaaDoorLaw
import Derived.Test.YtoekddkkjbcicaaDoorRows
import Derived.Test.YtoekddkkjbcicaaDoorTie
import Derived.Test.YtoekddkkjbcicaaDoorCards
import Derived.LaidMore
import Derived.Stop.Joined
import Derived.SevenTiedAt
set_option linter.unusedVariables false
set_option linter.unusedSimpArgs false
namespace Go.Proofs.YtoekddkkjbcicaaDoor
open Go.RowKit
attribute [local simp] Lx.bs_size
/-- The chapter's example. -/
def exT : Ox.S := [118, 97, 108, 117, 101, 32, 51, 32, 116, 39, 54, 49, 39, 10, 115, 111, 114, 116, 32, 48, 32, 49, 97, 110, 32, 48, 100, 98, 10, 106, 117, 109, 112, 32, 51, 10]
def exL : List Ox.Op := [⟨4, 0, 3, 0, 2, 0, [97], [], []⟩, ⟨21, 0, 0, 0, 0, 0, [], [⟨1, 1, false⟩, ⟨0, 0, true⟩], []⟩, ⟨1, 0, 3, 0, 0, 0, [], [], []⟩]
theorem num_d (n : Nat) (h : n < 10) : Ox.num (n : Int) = [UInt8.ofNat (48 + n)] := by
  rw [Ox.num, if_neg (by omega), Ox.numN, Int.natAbs_natCast, if_pos h]
theorem ex_lines : Ox.lines exL = exT := by
  have h0 : Ox.num 0 = [48] := num_d 0 (by decide)
  have h1 : Ox.num 1 = [49] := num_d 1 (by decide)
  have h3 : Ox.num 3 = [51] := num_d 3 (by decide)
  have e1 : Ox.line ⟨4, 0, 3, 0, 2, 0, [97], [], []⟩ = [118, 97, 108, 117, 101] ++ [] ++ (32 :: Ox.num 3) ++ [] ++ [32, 116, 39, 54, 49, 39] ++ [] ++ [] := rfl
  have e2 : Ox.line ⟨21, 0, 0, 0, 0, 0, [], [⟨1, 1, false⟩, ⟨0, 0, true⟩], []⟩ = [115, 111, 114, 116] ++ (32 :: Ox.num 0) ++ [] ++ [] ++ [] ++ [] ++ ((32 :: (Ox.num 1 ++ [97] ++ [110])) ++ ((32 :: (Ox.num 0 ++ [100] ++ [98])) ++ [])) := rfl
  have e3 : Ox.line ⟨1, 0, 3, 0, 0, 0, [], [], []⟩ = [106, 117, 109, 112] ++ [] ++ (32 :: Ox.num 3) ++ [] ++ [] ++ [] ++ [] := rfl
  rw [h0, h1] at e2
  rw [h3] at e1 e3
  unfold Ox.lines exL
  simp only [List.flatMap_cons, List.flatMap_nil, e1, e2, e3]
  rfl
theorem ex_check : Ox.check exL = 0 := by decide
theorem ex_parse : Ox.parse exT = (exL, 0, 0) := by
  rw [← ex_lines]
  exact Ox.parse_lines ex_check (by decide) (by rw [ex_lines]; decide)
theorem ex_regs : regs exL = 4 := by decide
set_option maxRecDepth 100000 in
set_option maxHeartbeats 4000000 in
theorem exAwake_any (w : World) (hl : Laid w) :
    Calls Tryd.prog 9 #[] w fun e w' => e = .returned (.bool true) ∧ Below w.heap.size w w' := by
  have hP := parse_any (Lx.bs exT) w hl (by rw [Lx.bs_size]; decide) (by
    intro t ht
    have := split_mem 10 (Lx.ls (Lx.bs exT)) t ht
    rw [Lx.ls_bs] at this
    exact Nat.le_trans this (by decide))
  rw [Lx.ls_bs, ex_parse] at hP
  have HP := Lib.hid hP
  clear hP
  have HL := Lib.hid hl
  clear hl
  go_enter Tryd.func9, Tryd.ntmps9
  go_wp2_with fail
  refine Calls.mono HP.out ?_
  rintro e w1 ⟨v, L, he, hops, hfits, hL, hb1⟩
  simp only at hL he
  subst he
  have hlen : L.length = 3 := by rw [← List.length_map (f := fun x : OV => x.1), hL]; rfl
  have hl1 := laid_keep HL.out hb1
  have HOPS := Lib.hid hops
  have HFITS := Lib.hid hfits
  have HLE := Lib.hid hL
  have HL1 := Lib.hid hl1
  obtain ⟨hk, hrow⟩ := hops
  rcases hrow with ⟨h0, _⟩ | ⟨b, off, c, rfl, hb, hc, hm, hx⟩
  · rw [h0] at hlen; cases hlen
  rw [hlen]
  obtain ⟨p1, p2, p3, rfl⟩ : ∃ p1 p2 p3, L = [p1, p2, p3] := by
    match L, hlen with
    | [a, b, c], _ => exact ⟨a, b, c, rfl⟩
  simp only [List.map_cons, List.map_nil, exL, List.cons.injEq] at hL
  obtain ⟨q1, q2, q3, _⟩ := hL
  obtain ⟨o1, v1⟩ := p1
  obtain ⟨o2, v2⟩ := p2
  obtain ⟨o3, v3⟩ := p3
  simp only at q1 q2 q3
  subst q1 q2 q3
  have a4 : w1.cell? ⟨b, off + 4, none⟩ = some (.int .i64 2) := hx 4 _ rfl
  have a5 : w1.cell? ⟨b, off + 5, none⟩ = some (.int .i64 0) := hx 5 _ rfl
  have a6 : w1.cell? ⟨b, off + 6, none⟩ = some (.string ⟨#[97]⟩) := hx 6 _ rfl
  have hk2 := hk (_, v2) (List.mem_cons_of_mem _ List.mem_cons_self)
  simp only at hk2
  rcases hk2 with ⟨h0, _⟩ | ⟨kb, koff, kc, rfl, hkb, hkc, hkm, hkx⟩
  · cases h0
  have a7 : w1.cell? ⟨b, off + 9 + 7, none⟩ = some (.slice (some ⟨kb, koff, none⟩) 2 kc) := hx 16 _ rfl
  have k0 : w1.cell? ⟨kb, koff, none⟩ = some (.int .i64 1) := hkx 0 _ rfl
  have k1 : w1.cell? ⟨kb, koff + 1, none⟩ = some (.int .i64 1) := hkx 1 _ rfl
  have k2 : w1.cell? ⟨kb, koff + 2, none⟩ = some (.bool false) := hkx 2 _ rfl
  have HB1 := Lib.hid hb1
  clear hx hkx hk hfits hl1 hb1
  go_wp2_with fail
  refine (opCheck_any _ _ _ HL1.out HOPS.out HFITS.out (by simp)).mono ?_
  rintro e w2 ⟨rfl, hb2⟩
  rw [HLE.out, ex_check]
  have hops2 := ops_keep HOPS.out hb2
  have hl2 := laid_keep HL1.out hb2
  go_wp2_with fail
  refine (opRegs_any _ _ _ hl2 hops2 HFITS.out (by simp)).mono ?_
  rintro e w3 ⟨rfl, hb3⟩
  rw [HLE.out, ex_regs]
  have hl3 := laid_keep hl2 hb3
  have hB3 := below_next (below_next HB1.out hb2) hb3
  go_wp2_with fail
  refine (opName_any 33 _ hl3).mono ?_
  rintro e w4 ⟨rfl, rfl⟩
  rw [show Lx.bs (Ox.nameOf 33) = ⟨#[115, 97, 109, 101]⟩ from rfl]
  go_wp2
  go_ret
  exact ⟨rfl, hB3⟩
open Go.ChangeShapes Go.WideShapes Go.ChangeAt Go.WideElems
section
variable {H : Type} {enc : TypeId × Value → H} {P : Program}
theorem arr_of_trod {w : World} {base fuel n : Nat} {t e : TypeId} {spare : Nat → Bool} {held : Bool} {cs : List Value} {p : List MemPlace} (ht : P.underlying t = some (.array n e)) (he : P.underlying e = some .string) (hce : P.cellsOf e = 1)
    (L : List (List UInt8)) (hn : L.length = n) (h : DataW.trod enc P w base spare held fuel t cs = some (.agg (L.map fun s => .lit (.string s)), p)) :
    ∀ (i : Nat) (s : List UInt8), L[i]? = some s → cs[i]? = some (Value.string (Lx.bs s)) := by
  obtain ⟨xs, m, rfl, hx, hlen, hxn, hel⟩ := DataW.trod_array ht h
  intro i s hi
  have hin : i < n := by rw [← hn]; exact (List.getElem?_eq_some_iff.1 hi).1
  have h1 := hel i hin
  rw [hce, Nat.mul_one] at h1
  obtain ⟨x, hxi⟩ : ∃ x, xs[i]? = some x := ⟨_, List.getElem?_eq_getElem (by omega)⟩
  rw [hxi] at h1
  obtain ⟨b, hb, hxe, _⟩ := DataW.trod_string he h1
  have hm : (xs.map (·.1))[i]? = (L.map fun s => (DataW.lit (.string s) : DataW H))[i]? := by
    have := (Prod.mk.injEq _ _ _ _ ▸ hx : _ ∧ _).1
    simp only [DataW.agg.injEq] at this
    rw [this]
  rw [List.getElem?_map, List.getElem?_map, hxi, hi, hxe] at hm
  simp only [Option.map_some, Option.some.injEq, DataW.lit.injEq, Lit.string.injEq] at hm
  have hbs : b = Lx.bs s := by rw [← hm]; exact (Lx.bs_ls b).symm
  have h0 : ((cs.drop i).take 1)[0]? = some (.string b) := by rw [hb]; rfl
  rw [List.getElem?_take_of_lt (by decide), List.getElem?_drop, Nat.add_zero] at h0
  rw [h0, hbs]
end
theorem g_names : Tryd.prog.globalNamed "tome/op.names" = some 0 := by kernel_rfl
theorem g_forms : Tryd.prog.globalNamed "tome/op.forms" = some 1 := by kernel_rfl
theorem t_names : (Tryd.prog.globals[0]?).map (·.type) = some 45 := by kernel_rfl
theorem t_forms : (Tryd.prog.globals[1]?).map (·.type) = some 45 := by kernel_rfl
abbrev laidL : List (String × DataW Unit) := [("tome/op.names", Rows.laid_tome_op_names), ("tome/op.forms", Rows.laid_tome_op_forms)]
theorem cells_string : Tryd.prog.cellsOf 9 = 1 := by kernel_rfl
/-- What the condition gives the walks: the two laid variables. -/
theorem laid_of {W : World} (h : laidMetH Tryd.prog laidL W) : Laid W := by
  rw [MakeChecks.laidMetH_plain _ _ _ (by kernel_rfl)] at h
  obtain ⟨ps, ⟨g0, t0, cs0, f0, p0, q0, hg0, ht0, hv0, hd0, ⟨g1, t1, cs1, f1, p1, q1, hg1, ht1, hv1, hd1, _, _⟩, _⟩, _, _⟩ := h
  obtain rfl := Option.some.inj (g_names.symm.trans hg0)
  obtain rfl := Option.some.inj (g_forms.symm.trans hg1)
  obtain rfl := Option.some.inj (t_names.symm.trans ht0)
  obtain rfl := Option.some.inj (t_forms.symm.trans ht1)
  have h0 := arr_of_trod Tryd.underlying45 Tryd.underlying9 cells_string Ox.names rfl hd0
  have h1 := arr_of_trod Tryd.underlying45 Tryd.underlying9 cells_string Ox.forms rfl hd1
  have c0 : ∀ i s, Ox.names[i]? = some s → W.cell? ⟨0, i, none⟩ = some (.string (Lx.bs s)) := fun i s hi => by
    rw [World.var?_cell hg0 hv0 i]; simpa using h0 i s hi
  have c1 : ∀ i s, Ox.forms[i]? = some s → W.cell? ⟨1, i, none⟩ = some (.string (Lx.bs s)) := fun i s hi => by
    rw [World.var?_cell hg1 hv1 i]; simpa using h1 i s hi
  refine ⟨?_, c0, c1⟩
  have := c1 0 _ rfl
  unfold World.cell? at this
  by_cases hs : 1 < W.heap.size
  · omega
  · rw [Array.getElem?_eq_none (by show W.heap.size ≤ 1; omega)] at this
    cases this
theorem door_met (os : Os) (args : Array Value) : laidMetH Tryd.prog laidL ((World.doorLaid Tryd.prog 400 os).forCall (fun _ _ => 0) ⟨#[], args, []⟩).memory :=
  laidMetH_of_parts3 (fuel := 8) (laidMet_of_run' 8 (by kernel_rfl) (by kernel_rfl)) (by kernel_rfl) (by kernel_rfl)
theorem opOwn_ : ownKnob Tryd.prog.godebug = none := by kernel_rfl
end Go.Proofs.YtoekddkkjbcicaaDoor
