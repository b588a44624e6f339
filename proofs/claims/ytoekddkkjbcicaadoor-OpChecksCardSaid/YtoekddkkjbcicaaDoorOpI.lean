import Derived.Test.YtoekddkkjbcicaaDoorOpH
set_option linter.unusedVariables false
set_option linter.unusedSimpArgs false
namespace Go.Proofs.YtoekddkkjbcicaaDoor
open Go.RowKit
attribute [local simp] Lx.bs_size
theorem named_any (k : UInt8) (s : ByteArray) (w : World) (hs : s.size ≤ 1000000) :
    Calls Tryd.prog 47 #[.int .u8 k.toNat, .string s] w fun e w' => e = .returned (.bool (Ox.named k (Lx.ls s))) ∧ Below w.heap.size w w' := by
  have hk := k.toNat_lt
  by_cases h110 : k.toNat = 110
  · have hr : Ox.named k (Lx.ls s) = Lx.nameOk (Lx.ls s) := by simp [Ox.named, h110]
    have e110 : ((k.toNat : Int) == 110) = true := by simp; omega
    rw [hr]
    clear hr h110 
    go_enter Tryd.func47, Tryd.ntmps47
    go_wp2_with fail
    refine (tname_any s _).mono ?_
    rintro e w1 ⟨rfl, hb1⟩
    go_wp2
    go_ret
    exact ⟨rfl, hb1⟩
  by_cases h117 : k.toNat = 117
  · have hr : Ox.named k (Lx.ls s) = Ox.opsU.contains (Lx.ls s) := by simp [Ox.named, h117]
    have e117 : ((k.toNat : Int) == 117) = true := by simp; omega
    have e110 : ((k.toNat : Int) == 110) = false := by simp; omega
    obtain ⟨B, hB⟩ : ∃ B, B = Ox.opsU.contains (Lx.ls s) := ⟨_, rfl⟩
    rw [← hB] at hr
    have HB := Lib.hid hB
    clear hB
    rw [hr]
    clear hr h117 h110
    go_enter Tryd.func47, Tryd.ntmps47
    go_wp2_with fail
    refine (opone_any s _ Ox.opsU _ (by decide) (row1_new (n := Ox.opsU.length) (by simp) rfl (by decide))).mono ?_
    rintro e w1 ⟨rfl, rfl⟩
    rw [← HB.out]
    go_wp2
    go_ret
    exact ⟨rfl, by (repeat (first | with_reducible exact Below.refl _ _ | with_reducible assumption | with_reducible refine Below.drew ?_ | with_reducible refine below_drewN ?_ _ | with_reducible refine below_al ?_ _ | with_reducible refine Below.setCell ?_ ?_ _ | exact Nat.le_refl _ | omega | (simp; done) | (simp; omega)))⟩
  by_cases h98 : k.toNat = 98
  · have hr : Ox.named k (Lx.ls s) = Ox.opsB.contains (Lx.ls s) := by simp [Ox.named, h98]
    have e98 : ((k.toNat : Int) == 98) = true := by simp; omega
    have e110 : ((k.toNat : Int) == 110) = false := by simp; omega
    have e117 : ((k.toNat : Int) == 117) = false := by simp; omega
    obtain ⟨B, hB⟩ : ∃ B, B = Ox.opsB.contains (Lx.ls s) := ⟨_, rfl⟩
    rw [← hB] at hr
    have HB := Lib.hid hB
    clear hB
    rw [hr]
    clear hr h98 h110 h117
    go_enter Tryd.func47, Tryd.ntmps47
    go_wp2_with fail
    refine (opone_any s _ Ox.opsB _ (by decide) (row1_new (n := Ox.opsB.length) (by simp) rfl (by decide))).mono ?_
    rintro e w1 ⟨rfl, rfl⟩
    rw [← HB.out]
    go_wp2
    go_ret
    exact ⟨rfl, by (repeat (first | with_reducible exact Below.refl _ _ | with_reducible assumption | with_reducible refine Below.drew ?_ | with_reducible refine below_drewN ?_ _ | with_reducible refine below_al ?_ _ | with_reducible refine Below.setCell ?_ ?_ _ | exact Nat.le_refl _ | omega | (simp; done) | (simp; omega)))⟩
  by_cases h99 : k.toNat = 99
  · have hr : Ox.named k (Lx.ls s) = Ox.opsC.contains (Lx.ls s) := by simp [Ox.named, h99]
    have e99 : ((k.toNat : Int) == 99) = true := by simp; omega
    have e110 : ((k.toNat : Int) == 110) = false := by simp; omega
    have e117 : ((k.toNat : Int) == 117) = false := by simp; omega
    have e98 : ((k.toNat : Int) == 98) = false := by simp; omega
    obtain ⟨B, hB⟩ : ∃ B, B = Ox.opsC.contains (Lx.ls s) := ⟨_, rfl⟩
    rw [← hB] at hr
    have HB := Lib.hid hB
    clear hB
    rw [hr]
    clear hr h99 h110 h117 h98
    go_enter Tryd.func47, Tryd.ntmps47
    go_wp2_with fail
    refine (opone_any s _ Ox.opsC _ (by decide) (row1_new (n := Ox.opsC.length) (by simp) rfl (by decide))).mono ?_
    rintro e w1 ⟨rfl, rfl⟩
    rw [← HB.out]
    go_wp2
    go_ret
    exact ⟨rfl, by (repeat (first | with_reducible exact Below.refl _ _ | with_reducible assumption | with_reducible refine Below.drew ?_ | with_reducible refine below_drewN ?_ _ | with_reducible refine below_al ?_ _ | with_reducible refine Below.setCell ?_ ?_ _ | exact Nat.le_refl _ | omega | (simp; done) | (simp; omega)))⟩
  by_cases h97 : k.toNat = 97
  · have hr : Ox.named k (Lx.ls s) = Ox.opsA.contains (Lx.ls s) := by simp [Ox.named, h97]
    have e97 : ((k.toNat : Int) == 97) = true := by simp; omega
    have e110 : ((k.toNat : Int) == 110) = false := by simp; omega
    have e117 : ((k.toNat : Int) == 117) = false := by simp; omega
    have e98 : ((k.toNat : Int) == 98) = false := by simp; omega
    have e99 : ((k.toNat : Int) == 99) = false := by simp; omega
    obtain ⟨B, hB⟩ : ∃ B, B = Ox.opsA.contains (Lx.ls s) := ⟨_, rfl⟩
    rw [← hB] at hr
    have HB := Lib.hid hB
    clear hB
    rw [hr]
    clear hr h97 h110 h117 h98 h99
    go_enter Tryd.func47, Tryd.ntmps47
    go_wp2_with fail
    refine (opone_any s _ Ox.opsA _ (by decide) (row1_new (n := Ox.opsA.length) (by simp) rfl (by decide))).mono ?_
    rintro e w1 ⟨rfl, rfl⟩
    rw [← HB.out]
    go_wp2
    go_ret
    exact ⟨rfl, by (repeat (first | with_reducible exact Below.refl _ _ | with_reducible assumption | with_reducible refine Below.drew ?_ | with_reducible refine below_drewN ?_ _ | with_reducible refine below_al ?_ _ | with_reducible refine Below.setCell ?_ ?_ _ | exact Nat.le_refl _ | omega | (simp; done) | (simp; omega)))⟩
  have hr : Ox.named k (Lx.ls s) = (Lx.ls s).isEmpty := by simp [Ox.named, h110, h117, h98, h99, h97]
  have e110 : ((k.toNat : Int) == 110) = false := by simp; omega
  have e117 : ((k.toNat : Int) == 117) = false := by simp; omega
  have e98 : ((k.toNat : Int) == 98) = false := by simp; omega
  have e99 : ((k.toNat : Int) == 99) = false := by simp; omega
  have e97 : ((k.toNat : Int) == 97) = false := by simp; omega
  rw [hr]
  clear hr h110 h117 h98 h99 h97
  have hemp : s.toList.isEmpty = (Lx.ls s).isEmpty := by rw [Lx.toList_ls]
  cases he : (Lx.ls s).isEmpty with
  | true =>
    rw [he] at hemp
    go_enter Tryd.func47, Tryd.ntmps47
    go_wp2
    go_ret
    exact ⟨rfl, Below.refl _ _⟩
  | false =>
    rw [he] at hemp
    go_enter Tryd.func47, Tryd.ntmps47
    go_wp2
    go_ret
    exact ⟨rfl, Below.refl _ _⟩
def wordP (k : UInt8) (s : Ox.S) : Bool :=
  if k.toNat = 116 ∨ k.toNat = 102 then Lx.nameOk s
  else if k.toNat = 117 then Ox.opsU.contains s
  else if k.toNat = 98 then Ox.opsB.contains s
  else if k.toNat = 121 then Ox.opsC.contains s
  else if k.toNat = 97 then Ox.opsA.contains s
  else s.isEmpty
theorem rword40_any (k : UInt8) (s : ByteArray) (w : World) (hs : s.size ≤ 1000000) :
    Calls Tryd.prog 38 #[.int .u8 k.toNat, .string s] w fun e w' => e = .returned (.bool (wordP k (Lx.ls s))) ∧ Below w.heap.size w w' := by
  have hk := k.toNat_lt
  by_cases h116 : k.toNat = 116
  · have hr : wordP k (Lx.ls s) = Lx.nameOk (Lx.ls s) := by simp [wordP, h116]
    have e116 : ((k.toNat : Int) == 116) = true := by simp; omega
    rw [hr]
    clear hr h116 
    go_enter Tryd.func38, Tryd.ntmps38
    go_wp2_with fail
    refine (rname_any s _).mono ?_
    rintro e w1 ⟨rfl, hb1⟩
    go_wp2
    go_ret
    exact ⟨rfl, hb1⟩
  by_cases h102 : k.toNat = 102
  · have hr : wordP k (Lx.ls s) = Lx.nameOk (Lx.ls s) := by simp [wordP, h102]
    have e102 : ((k.toNat : Int) == 102) = true := by simp; omega
    have e116 : ((k.toNat : Int) == 116) = false := by simp; omega
    rw [hr]
    clear hr h102 h116
    go_enter Tryd.func38, Tryd.ntmps38
    go_wp2_with fail
    refine (rname_any s _).mono ?_
    rintro e w1 ⟨rfl, hb1⟩
    go_wp2
    go_ret
    exact ⟨rfl, hb1⟩
  by_cases h117 : k.toNat = 117
  · have hr : wordP k (Lx.ls s) = Ox.opsU.contains (Lx.ls s) := by simp [wordP, h117]
    have e117 : ((k.toNat : Int) == 117) = true := by simp; omega
    have e116 : ((k.toNat : Int) == 116) = false := by simp; omega
    have e102 : ((k.toNat : Int) == 102) = false := by simp; omega
    obtain ⟨B, hB⟩ : ∃ B, B = Ox.opsU.contains (Lx.ls s) := ⟨_, rfl⟩
    rw [← hB] at hr
    have HB := Lib.hid hB
    clear hB
    rw [hr]
    clear hr h117 h116 h102
    go_enter Tryd.func38, Tryd.ntmps38
    go_wp2_with fail
    refine (among_any s _ Ox.opsU _ (by decide) (row1_new (n := Ox.opsU.length) (by simp) rfl (by decide))).mono ?_
    rintro e w1 ⟨rfl, rfl⟩
    rw [← HB.out]
    go_wp2
    go_ret
    exact ⟨rfl, by (repeat (first | with_reducible exact Below.refl _ _ | with_reducible assumption | with_reducible refine Below.drew ?_ | with_reducible refine below_drewN ?_ _ | with_reducible refine below_al ?_ _ | with_reducible refine Below.setCell ?_ ?_ _ | exact Nat.le_refl _ | omega | (simp; done) | (simp; omega)))⟩
  by_cases h98 : k.toNat = 98
  · have hr : wordP k (Lx.ls s) = Ox.opsB.contains (Lx.ls s) := by simp [wordP, h98]
    have e98 : ((k.toNat : Int) == 98) = true := by simp; omega
    have e116 : ((k.toNat : Int) == 116) = false := by simp; omega
    have e102 : ((k.toNat : Int) == 102) = false := by simp; omega
    have e117 : ((k.toNat : Int) == 117) = false := by simp; omega
    obtain ⟨B, hB⟩ : ∃ B, B = Ox.opsB.contains (Lx.ls s) := ⟨_, rfl⟩
    rw [← hB] at hr
    have HB := Lib.hid hB
    clear hB
    rw [hr]
    clear hr h98 h116 h102 h117
    go_enter Tryd.func38, Tryd.ntmps38
    go_wp2_with fail
    refine (among_any s _ Ox.opsB _ (by decide) (row1_new (n := Ox.opsB.length) (by simp) rfl (by decide))).mono ?_
    rintro e w1 ⟨rfl, rfl⟩
    rw [← HB.out]
    go_wp2
    go_ret
    exact ⟨rfl, by (repeat (first | with_reducible exact Below.refl _ _ | with_reducible assumption | with_reducible refine Below.drew ?_ | with_reducible refine below_drewN ?_ _ | with_reducible refine below_al ?_ _ | with_reducible refine Below.setCell ?_ ?_ _ | exact Nat.le_refl _ | omega | (simp; done) | (simp; omega)))⟩
  by_cases h121 : k.toNat = 121
  · have hr : wordP k (Lx.ls s) = Ox.opsC.contains (Lx.ls s) := by simp [wordP, h121]
    have e121 : ((k.toNat : Int) == 121) = true := by simp; omega
    have e116 : ((k.toNat : Int) == 116) = false := by simp; omega
    have e102 : ((k.toNat : Int) == 102) = false := by simp; omega
    have e117 : ((k.toNat : Int) == 117) = false := by simp; omega
    have e98 : ((k.toNat : Int) == 98) = false := by simp; omega
    obtain ⟨B, hB⟩ : ∃ B, B = Ox.opsC.contains (Lx.ls s) := ⟨_, rfl⟩
    rw [← hB] at hr
    have HB := Lib.hid hB
    clear hB
    rw [hr]
    clear hr h121 h116 h102 h117 h98
    go_enter Tryd.func38, Tryd.ntmps38
    go_wp2_with fail
    refine (among_any s _ Ox.opsC _ (by decide) (row1_new (n := Ox.opsC.length) (by simp) rfl (by decide))).mono ?_
    rintro e w1 ⟨rfl, rfl⟩
    rw [← HB.out]
    go_wp2
    go_ret
    exact ⟨rfl, by (repeat (first | with_reducible exact Below.refl _ _ | with_reducible assumption | with_reducible refine Below.drew ?_ | with_reducible refine below_drewN ?_ _ | with_reducible refine below_al ?_ _ | with_reducible refine Below.setCell ?_ ?_ _ | exact Nat.le_refl _ | omega | (simp; done) | (simp; omega)))⟩
  by_cases h97 : k.toNat = 97
  · have hr : wordP k (Lx.ls s) = Ox.opsA.contains (Lx.ls s) := by simp [wordP, h97]
    have e97 : ((k.toNat : Int) == 97) = true := by simp; omega
    have e116 : ((k.toNat : Int) == 116) = false := by simp; omega
    have e102 : ((k.toNat : Int) == 102) = false := by simp; omega
    have e117 : ((k.toNat : Int) == 117) = false := by simp; omega
    have e98 : ((k.toNat : Int) == 98) = false := by simp; omega
    have e121 : ((k.toNat : Int) == 121) = false := by simp; omega
    obtain ⟨B, hB⟩ : ∃ B, B = Ox.opsA.contains (Lx.ls s) := ⟨_, rfl⟩
    rw [← hB] at hr
    have HB := Lib.hid hB
    clear hB
    rw [hr]
    clear hr h97 h116 h102 h117 h98 h121
    go_enter Tryd.func38, Tryd.ntmps38
    go_wp2_with fail
    refine (among_any s _ Ox.opsA _ (by decide) (row1_new (n := Ox.opsA.length) (by simp) rfl (by decide))).mono ?_
    rintro e w1 ⟨rfl, rfl⟩
    rw [← HB.out]
    go_wp2
    go_ret
    exact ⟨rfl, by (repeat (first | with_reducible exact Below.refl _ _ | with_reducible assumption | with_reducible refine Below.drew ?_ | with_reducible refine below_drewN ?_ _ | with_reducible refine below_al ?_ _ | with_reducible refine Below.setCell ?_ ?_ _ | exact Nat.le_refl _ | omega | (simp; done) | (simp; omega)))⟩
  have hr : wordP k (Lx.ls s) = (Lx.ls s).isEmpty := by simp [wordP, h116, h102, h117, h98, h121, h97]
  have e116 : ((k.toNat : Int) == 116) = false := by simp; omega
  have e102 : ((k.toNat : Int) == 102) = false := by simp; omega
  have e117 : ((k.toNat : Int) == 117) = false := by simp; omega
  have e98 : ((k.toNat : Int) == 98) = false := by simp; omega
  have e121 : ((k.toNat : Int) == 121) = false := by simp; omega
  have e97 : ((k.toNat : Int) == 97) = false := by simp; omega
  rw [hr]
  clear hr h116 h102 h117 h98 h121 h97
  have hemp : s.toList.isEmpty = (Lx.ls s).isEmpty := by rw [Lx.toList_ls]
  cases he : (Lx.ls s).isEmpty with
  | true =>
    rw [he] at hemp
    go_enter Tryd.func38, Tryd.ntmps38
    go_wp2
    go_ret
    exact ⟨rfl, Below.refl _ _⟩
  | false =>
    rw [he] at hemp
    go_enter Tryd.func38, Tryd.ntmps38
    go_wp2
    go_ret
    exact ⟨rfl, Below.refl _ _⟩
end Go.Proofs.YtoekddkkjbcicaaDoor
