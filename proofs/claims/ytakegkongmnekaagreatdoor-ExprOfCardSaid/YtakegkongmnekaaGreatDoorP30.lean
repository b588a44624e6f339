/- Part of the proof: see the last text. -/
import Derived.Test.YtakegkongmnekaaGreatDoorP22
import Derived.Test.YtakegkongmnekaaGreatDoorP25
import Derived.Test.YtakegkongmnekaaGreatDoorP26
set_option maxRecDepth 20000
set_option linter.unusedVariables false
set_option linter.unusedSimpArgs false
namespace Go.Proofs.YtakegkongmnekaaGreatDoor
open Go.RowKit
open Vm
def L_tomeref25_fail : FC :=
 ⟨15, (.seq (.reg (zs 1 (.box 68 (.t 0)) 10 (zs 2 (.alloc 68 [.nils, (.int .i64 0), (.int .i64 0), (.int .i64 0)]) 11 .done))) (.seq (.seq (.reg (zs 3 (.faddr 2 (.t 1)) 12 (zs 4 (zl (.t 3)) 13 (zs 5 (za .eql (.t 4) (.c (.int .i64 0))) 14 .done)))) (.cond (.t 5) (.seq (.reg (zs 6 (.faddr 2 (.t 1)) 15 (.step ⟨none, .store 1 (.t 6) (.c (.int .i64 20)), 16, none, []⟩ .done))) (.reg (zs 7 (.faddr 1 (.t 1)) 17 (zs 8 (zl (.t 7)) 18 (zs 9 (.faddr 0 (.t 1)) 19 (zs 10 (zl (.t 9)) 20 (zs 11 (.lenl (.t 10)) 21 (zs 12 (.mm .min (.t 8) (.t 11)) 22 (zs 13 (.faddr 3 (.t 1)) 23 (.step ⟨none, .store 1 (.t 13) (.t 12), 24, none, []⟩ .done)))))))))) .skip)) (.seq (.reg (zs 14 (.load true 4 (.t 1)) 25 (.step ⟨none, .store 4 (.t 2) (.t 14), 26, none, []⟩ .done))) .ret))), [.cell 2 true 4]⟩
theorem zdM (G : Nat → V) : zaX Tryz.prog G 10 122 = some L_tomeref25_fail := by kernel_rfl
def L_tomeref25_at : FC :=
 ⟨48, (.seq (.reg (zs 4 (.box 68 (.t 0)) 10 (zs 8 (.move (.c (.bool false))) 11 .done))) (.seq (.reg (zs 9 (.faddr 2 (.t 4)) 12 (zs 10 (zl (.t 9)) 13 (zs 11 (za .eql (.t 10) (.c (.int .i64 0))) 14 (zs 12 (.move (.t 11)) 15 (.step ⟨(some 13), .faddr 1 (.t 4), 16, (some (12, true)), []⟩ (.step ⟨(some 14), zl (.t 13), 17, (some (12, true)), []⟩ (.step ⟨(some 15), .move (.t 1), 18, (some (12, true)), []⟩ (.step ⟨(some 16), za .add (.t 14) (.t 15), 19, (some (12, true)), []⟩ (.step ⟨(some 17), .faddr 0 (.t 4), 20, (some (12, true)), []⟩ (.step ⟨(some 18), zl (.t 17), 21, (some (12, true)), []⟩ (.step ⟨(some 19), .lenl (.t 18), 22, (some (12, true)), []⟩ (.step ⟨(some 20), za .lss (.t 16) (.t 19), 23, (some (12, true)), []⟩ (zs 21 (.pick (.t 12) (.t 20) (.c (.bool false))) 24 (zs 22 (.move (.t 21)) 25 (.step ⟨(some 23), .faddr 0 (.t 4), 26, (some (22, true)), []⟩ (.step ⟨(some 24), zl (.t 23), 27, (some (22, true)), []⟩ (.step ⟨(some 25), .faddr 1 (.t 4), 28, (some (22, true)), []⟩ (.step ⟨(some 26), zl (.t 25), 29, (some (22, true)), []⟩ (.step ⟨(some 27), .move (.t 1), 30, (some (22, true)), []⟩ (.step ⟨(some 28), za .add (.t 26) (.t 27), 31, (some (22, true)), []⟩ (.step ⟨(some 29), .iaddr 6 (.t 24) (.t 28), 32, (some (22, true)), []⟩ (.step ⟨(some 30), .faddr 0 (.t 29), 33, (some (22, true)), []⟩ (.step ⟨(some 31), zl (.t 30), 34, (some (22, true)), []⟩ (.step ⟨(some 32), .move (.t 2), 35, (some (22, true)), []⟩ (.step ⟨(some 33), za .eql (.t 31) (.t 32), 36, (some (22, true)), []⟩ (zs 34 (.pick (.t 22) (.t 33) (.c (.bool false))) 37 (zs 35 (.move (.t 34)) 38 (.step ⟨(some 36), .faddr 0 (.t 4), 39, (some (35, true)), []⟩ (.step ⟨(some 37), zl (.t 36), 40, (some (35, true)), []⟩ (.step ⟨(some 38), .faddr 1 (.t 4), 41, (some (35, true)), []⟩ (.step ⟨(some 39), zl (.t 38), 42, (some (35, true)), []⟩ (.step ⟨(some 40), .move (.t 1), 43, (some (35, true)), []⟩ (.step ⟨(some 41), za .add (.t 39) (.t 40), 44, (some (35, true)), []⟩ (.step ⟨(some 42), .iaddr 6 (.t 37) (.t 41), 45, (some (35, true)), []⟩ (.step ⟨(some 43), .faddr 1 (.t 42), 46, (some (35, true)), []⟩ (.step ⟨(some 44), zl (.t 43), 47, (some (35, true)), []⟩ (.step ⟨(some 45), .move (.t 3), 48, (some (35, true)), []⟩ (.step ⟨(some 46), za .eql (.t 44) (.t 45), 49, (some (35, true)), []⟩ (zs 47 (.pick (.t 35) (.t 46) (.c (.bool false))) 50 (zs 8 (.move (.t 47)) 51 .done))))))))))))))))))))))))))))))))))))))))) .ret)), [.tmp 8]⟩
theorem zh7 (G : Nat → V) : zaX Tryz.prog G 10 100 = some L_tomeref25_at := by kernel_rfl
def L_tomeref25_word : FC :=
 ⟨8, (.seq (.reg (zs 2 (.box 68 (.t 0)) 10 (zs 4 (.move (.c (.bool false))) 11 .done))) (.seq (.reg (zs 5 (.load true 4 (.t 2)) 12 (zs 6 (.move (.t 1)) 13 (zs 7 (zc 100 [(.t 5), (.c (.int .i64 0)), (.c (.int .i64 2)), (.t 6)]) 14 (zs 4 (.move (.t 7)) 15 .done))))) .ret)), [.tmp 4]⟩
theorem zgu (G : Nat → V) : zaX Tryz.prog G 10 99 = some L_tomeref25_word := by kernel_rfl
def L_tomeref25_mark : FC :=
 ⟨8, (.seq (.reg (zs 2 (.box 68 (.t 0)) 10 (zs 4 (.move (.c (.bool false))) 11 .done))) (.seq (.reg (zs 5 (.load true 4 (.t 2)) 12 (zs 6 (.move (.t 1)) 13 (zs 7 (zc 100 [(.t 5), (.c (.int .i64 0)), (.c (.int .i64 4)), (.t 6)]) 14 (zs 4 (.move (.t 7)) 15 .done))))) .ret)), [.tmp 4]⟩
theorem zgw (G : Nat → V) : zaX Tryz.prog G 10 103 = some L_tomeref25_mark := by kernel_rfl
def L_tomeref25_kind : FC :=
 ⟨27, (.seq (.reg (zs 2 (.box 68 (.t 0)) 10 (zs 4 (.move (.c (.bool false))) 11 .done))) (.seq (.reg (zs 5 (.faddr 2 (.t 2)) 12 (zs 6 (zl (.t 5)) 13 (zs 7 (za .eql (.t 6) (.c (.int .i64 0))) 14 (zs 8 (.move (.t 7)) 15 (.step ⟨(some 9), .faddr 1 (.t 2), 16, (some (8, true)), []⟩ (.step ⟨(some 10), zl (.t 9), 17, (some (8, true)), []⟩ (.step ⟨(some 11), .faddr 0 (.t 2), 18, (some (8, true)), []⟩ (.step ⟨(some 12), zl (.t 11), 19, (some (8, true)), []⟩ (.step ⟨(some 13), .lenl (.t 12), 20, (some (8, true)), []⟩ (.step ⟨(some 14), za .lss (.t 10) (.t 13), 21, (some (8, true)), []⟩ (zs 15 (.pick (.t 8) (.t 14) (.c (.bool false))) 22 (zs 16 (.move (.t 15)) 23 (.step ⟨(some 17), .faddr 0 (.t 2), 24, (some (16, true)), []⟩ (.step ⟨(some 18), zl (.t 17), 25, (some (16, true)), []⟩ (.step ⟨(some 19), .faddr 1 (.t 2), 26, (some (16, true)), []⟩ (.step ⟨(some 20), zl (.t 19), 27, (some (16, true)), []⟩ (.step ⟨(some 21), .iaddr 6 (.t 18) (.t 20), 28, (some (16, true)), []⟩ (.step ⟨(some 22), .faddr 0 (.t 21), 29, (some (16, true)), []⟩ (.step ⟨(some 23), zl (.t 22), 30, (some (16, true)), []⟩ (.step ⟨(some 24), .move (.t 1), 31, (some (16, true)), []⟩ (.step ⟨(some 25), za .eql (.t 23) (.t 24), 32, (some (16, true)), []⟩ (zs 26 (.pick (.t 16) (.t 25) (.c (.bool false))) 33 (zs 4 (.move (.t 26)) 34 .done)))))))))))))))))))))))) .ret)), [.tmp 4]⟩
theorem zgx (G : Nat → V) : zaX Tryz.prog G 10 105 = some L_tomeref25_kind := by kernel_rfl
def L_tomeref25_next : FC :=
 ⟨8, (.seq (.reg (zs 1 (.box 68 (.t 0)) 10 (zs 2 (.alloc 68 [.nils, (.int .i64 0), (.int .i64 0), (.int .i64 0)]) 11 .done))) (.seq (.reg (zs 3 (.faddr 1 (.t 1)) 12 (zs 4 (zl (.t 3)) 13 (zs 5 (za .add (.t 4) (.c (.int .i64 1))) 14 (zs 6 (.faddr 1 (.t 1)) 15 (.step ⟨none, .store 1 (.t 6) (.t 5), 16, none, []⟩ .done)))))) (.seq (.reg (zs 7 (.load true 4 (.t 1)) 17 (.step ⟨none, .store 4 (.t 2) (.t 7), 18, none, []⟩ .done))) .ret))), [.cell 2 true 4]⟩
theorem zgv (G : Nat → V) : zaX Tryz.prog G 10 83 = some L_tomeref25_next := by kernel_rfl
def L_tomeref25_need : FC :=
 ⟨16, (.seq (.reg (zs 3 (.box 68 (.t 0)) 10 (zs 6 (.alloc 68 [.nils, (.int .i64 0), (.int .i64 0), (.int .i64 0)]) 11 .done))) (.seq (.seq (.reg (zs 7 (.load true 4 (.t 3)) 12 (zs 8 (.move (.t 1)) 13 (zs 9 (.move (.t 2)) 14 (zs 10 (zc 100 [(.t 7), (.c (.int .i64 0)), (.t 8), (.t 9)]) 15 (zs 11 (.un .not (.t 10)) 16 .done)))))) (.cond (.t 11) (.seq (.reg (zs 12 (.load true 4 (.t 3)) 17 (zs 13 (zc 122 [(.t 12)]) 18 (.step ⟨none, .store 4 (.t 6) (.t 13), 19, none, []⟩ .done)))) .ret) .skip)) (.seq (.reg (zs 14 (.load true 4 (.t 3)) 20 (zs 15 (zc 83 [(.t 14)]) 21 (.step ⟨none, .store 4 (.t 6) (.t 15), 22, none, []⟩ .done)))) .ret))), [.cell 6 true 4]⟩
theorem zcE (G : Nat → V) : zaX Tryz.prog G 10 101 = some L_tomeref25_need := by kernel_rfl
def L_tomeref25_two : FC :=
 ⟨12, (.seq (.reg (zs 4 (.box 27 (.t 1)) 10 (zs 5 (.box 27 (.t 2)) 11 (zs 6 (.alloc 27 zE) 12 .done)))) (.seq (.reg (zs 7 (.move (.t 0)) 13 (zs 8 (.load true 11 (.t 4)) 14 (zs 9 (.load true 11 (.t 5)) 15 (zs 10 (.bslice 27 11 [(.t 8), (.t 9)]) 16 (zs 11 (.build zE [(0, 1, (.c (.int .i64 4))), (1, 1, (.t 7)), (10, 1, (.t 10))]) 17 (.step ⟨none, .store 11 (.t 6) (.t 11), 18, none, []⟩ .done))))))) .ret)), [.cell 6 true 11]⟩
theorem zed (G : Nat → V) : zaX Tryz.prog G 10 84 = some L_tomeref25_two := by kernel_rfl
def L_tomeref25_level : FC :=
 ⟨18, (.seq (.reg (zs 2 (.move (.c .nils)) 10 (zs 3 (.move (.c (.int .i64 0))) 11 .done))) (.seq (.seq (.reg (zs 4 (.move (.t 0)) 12 .done)) (.block 0 (.seq (.reg (zs 6 (za .eql (.t 4) (.c (.int .i64 0))) 13 (zs 5 (.move (.t 6)) 14 .done))) (.cond (.t 5) (.seq (.reg (zs 7 (.bslice 9 1 [(.c (.str [111, 114]))]) 15 (zs 2 (.move (.t 7)) 16 (zs 3 (.move (.c (.int .i64 2))) 17 .done)))) .ret) (.seq (.reg (zs 9 (za .eql (.t 4) (.c (.int .i64 1))) 18 (zs 8 (.move (.t 9)) 19 .done))) (.cond (.t 8) (.seq (.reg (zs 10 (.bslice 9 1 [(.c (.str [97, 110, 100]))]) 20 (zs 2 (.move (.t 10)) 21 (zs 3 (.move (.c (.int .i64 2))) 22 .done)))) .ret) (.seq (.reg (zs 12 (za .eql (.t 4) (.c (.int .i64 4))) 23 (zs 11 (.move (.t 12)) 24 .done))) (.cond (.t 11) (.seq (.reg (zs 13 (.bslice 9 1 [(.c (.str [43])), (.c (.str [45]))]) 25 (zs 2 (.move (.t 13)) 26 (zs 3 (.move (.c (.int .i64 4))) 27 .done)))) .ret) (.seq (.reg (zs 15 (za .eql (.t 4) (.c (.int .i64 5))) 28 (zs 14 (.move (.t 15)) 29 .done))) (.cond (.t 14) (.seq (.reg (zs 16 (.bslice 9 1 [(.c (.str [42])), (.c (.str [47])), (.c (.str [37]))]) 30 (zs 2 (.move (.t 16)) 31 (zs 3 (.move (.c (.int .i64 4))) 32 .done)))) .ret) .skip)))))))))) (.seq (.reg (zs 17 (.bslice 9 1 [(.c (.str [124, 124]))]) 33 (zs 2 (.move (.t 17)) 34 (zs 3 (.move (.c (.int .i64 4))) 35 .done)))) .ret))), [.tmp 2, .tmp 3]⟩
theorem zga (G : Nat → V) : zaX Tryz.prog G 10 81 = some L_tomeref25_level := by kernel_rfl
def L_tomeref25_which : FC :=
 ⟨25, (.seq (.reg (zs 3 (.box 68 (.t 0)) 10 (zs 6 (.move (.c (.str []))) 11 .done))) (.seq (.seq (.reg (zs 7 (.move (.c (.int .i64 0))) 12 .done)) (.block 0 (.loop (.seq (.seq (.reg (zs 8 (.move (.t 7)) 13 (zs 9 (.move (.t 1)) 14 (zs 10 (.lenl (.t 9)) 15 (zs 11 (za .lss (.t 8) (.t 10)) 16 .done))))) (.cond (.t 11) .skip (.exit 0))) (.seq (.block 1 (.seq (.reg (zs 14 (.load true 4 (.t 3)) 17 (zs 15 (.move (.t 2)) 18 (zs 16 (.move (.t 1)) 19 (zs 17 (.move (.t 7)) 20 (zs 18 (.iaddr 1 (.t 16) (.t 17)) 21 (zs 19 (zl (.t 18)) 22 (zs 20 (zc 100 [(.t 14), (.c (.int .i64 0)), (.t 15), (.t 19)]) 23 .done)))))))) (.cond (.t 20) (.seq (.reg (zs 21 (.move (.t 1)) 24 (zs 22 (.move (.t 7)) 25 (zs 23 (.iaddr 1 (.t 21) (.t 22)) 26 (zs 24 (zl (.t 23)) 27 (zs 6 (.move (.t 24)) 28 .done)))))) .ret) .skip))) (.reg (zs 12 (.move (.t 7)) 29 (zs 13 (za .add (.t 12) (.c (.int .i64 1))) 30 (zs 7 (.move (.t 13)) 31 .done))))))))) (.seq (.reg (zs 6 (.move (.c (.str []))) 32 .done)) .ret))), [.tmp 6]⟩
theorem zf8 (G : Nat → V) : zaX Tryz.prog G 10 82 = some L_tomeref25_which := by kernel_rfl
def L_tomeref25_part : FC :=
 ⟨73, (.seq (.reg (zs 2 (.box 68 (.t 0)) 10 (zs 4 (.alloc 68 [.nils, (.int .i64 0), (.int .i64 0), (.int .i64 0)]) 11 (zs 5 (.alloc 27 zE) 12 .done)))) (.seq (.seq (.reg (zs 13 (.faddr 2 (.t 2)) 13 (zs 14 (zl (.t 13)) 14 (zs 15 (za .neq (.t 14) (.c (.int .i64 0))) 15 .done)))) (.cond (.t 15) (.seq (.reg (zs 16 (.load true 4 (.t 2)) 16 (zs 17 (.build zE []) 17 (.step ⟨none, .store 4 (.t 4) (.t 16), 18, none, []⟩ (.step ⟨none, .store 11 (.t 5) (.t 17), 19, none, []⟩ .done))))) .ret) .skip)) (.seq (.seq (.reg (zs 18 (.move (.t 1)) 20 (zs 19 (za .eql (.t 18) (.c (.int .i64 2))) 21 .done))) (.cond (.t 19) (.seq (.reg (zs 20 (.load true 4 (.t 2)) 22 (zs 21 (zc 78 [(.t 20)]) 23 (zs 22 (.ext (.t 21) 0) 24 (zs 23 (.ext (.t 21) 1) 25 (.step ⟨none, .store 4 (.t 4) (.t 22), 26, none, []⟩ (.step ⟨none, .store 11 (.t 5) (.t 23), 27, none, []⟩ .done))))))) .ret) .skip)) (.seq (.seq (.reg (zs 24 (.move (.t 1)) 28 (zs 25 (za .eql (.t 24) (.c (.int .i64 3))) 29 .done))) (.cond (.t 25) (.seq (.reg (zs 26 (.load true 4 (.t 2)) 30 (zs 27 (zc 79 [(.t 26)]) 31 (zs 28 (.ext (.t 27) 0) 32 (zs 29 (.ext (.t 27) 1) 33 (.step ⟨none, .store 4 (.t 4) (.t 28), 34, none, []⟩ (.step ⟨none, .store 11 (.t 5) (.t 29), 35, none, []⟩ .done))))))) .ret) .skip)) (.seq (.seq (.reg (zs 30 (.move (.t 1)) 36 (zs 31 (za .eql (.t 30) (.c (.int .i64 7))) 37 .done))) (.cond (.t 31) (.seq (.reg (zs 32 (.load true 4 (.t 2)) 38 (zs 33 (zc 80 [(.t 32)]) 39 (zs 34 (.ext (.t 33) 0) 40 (zs 35 (.ext (.t 33) 1) 41 (.step ⟨none, .store 4 (.t 4) (.t 34), 42, none, []⟩ (.step ⟨none, .store 11 (.t 5) (.t 35), 43, none, []⟩ .done))))))) .ret) .skip)) (.seq (.reg (zs 37 (.move (.t 1)) 44 (zs 38 (zc 81 [(.t 37)]) 45 (zs 36 (.move (.t 38)) 46 (zs 39 (.ext (.t 36) 0) 47 (zs 40 (.ext (.t 36) 1) 48 (zs 6 (.move (.t 39)) 49 (zs 7 (.move (.t 40)) 50 .done)))))))) (.seq (.reg (zs 42 (.load true 4 (.t 2)) 51 (zs 43 (.move (.t 1)) 52 (zs 44 (za .add (.t 43) (.c (.int .i64 1))) 53 (zs 45 (zc 44 [(.t 42), (.t 44)]) 54 (zs 41 (.move (.t 45)) 55 (zs 46 (.ext (.t 41) 0) 56 (zs 47 (.ext (.t 41) 1) 57 (zs 8 (.alloc 68 [.nils, (.int .i64 0), (.int .i64 0), (.int .i64 0)]) 58 (zs 9 (.alloc 27 zE) 59 (.step ⟨none, .store 4 (.t 8) (.t 46), 60, none, []⟩ (.step ⟨none, .store 11 (.t 9) (.t 47), 61, none, []⟩ .done)))))))))))) (.seq (.reg (zs 48 (.load true 4 (.t 8)) 62 (zs 49 (.move (.t 6)) 63 (zs 50 (.move (.t 7)) 64 (zs 51 (zc 82 [(.t 48), (.t 49), (.t 50)]) 65 (zs 10 (.move (.t 51)) 66 .done)))))) (.seq (.block 0 (.loop (.seq (.seq (.reg (zs 52 (.move (.t 10)) 67 (zs 53 (za .neq (.t 52) (.c (.str []))) 68 .done))) (.cond (.t 53) .skip (.exit 0))) (.block 1 (.seq (.reg (zs 55 (.load true 4 (.t 8)) 69 (zs 56 (zc 83 [(.t 55)]) 70 (zs 57 (.move (.t 1)) 71 (zs 58 (za .add (.t 57) (.c (.int .i64 1))) 72 (zs 59 (zc 44 [(.t 56), (.t 58)]) 73 (zs 54 (.move (.t 59)) 74 (zs 60 (.ext (.t 54) 0) 75 (zs 61 (.ext (.t 54) 1) 76 (zs 11 (.alloc 68 [.nils, (.int .i64 0), (.int .i64 0), (.int .i64 0)]) 77 (zs 12 (.alloc 27 zE) 78 (.step ⟨none, .store 4 (.t 11) (.t 60), 79, none, []⟩ (.step ⟨none, .store 11 (.t 12) (.t 61), 80, none, []⟩ .done))))))))))))) (.seq (.reg (zs 62 (.load true 4 (.t 11)) 81 (.step ⟨none, .store 4 (.t 8) (.t 62), 82, none, []⟩ .done))) (.seq (.reg (zs 63 (.move (.t 10)) 83 (zs 64 (.load true 11 (.t 9)) 84 (zs 65 (.load true 11 (.t 12)) 85 (zs 66 (zc 84 [(.t 63), (.t 64), (.t 65)]) 86 (.step ⟨none, .store 11 (.t 9) (.t 66), 87, none, []⟩ .done)))))) (.reg (zs 67 (.load true 4 (.t 8)) 88 (zs 68 (.move (.t 6)) 89 (zs 69 (.move (.t 7)) 90 (zs 70 (zc 82 [(.t 67), (.t 68), (.t 69)]) 91 (zs 10 (.move (.t 70)) 92 .done))))))))))))) (.seq (.reg (zs 71 (.load true 4 (.t 8)) 93 (zs 72 (.load true 11 (.t 9)) 94 (.step ⟨none, .store 4 (.t 4) (.t 71), 95, none, [9]⟩ (.step ⟨none, .store 11 (.t 5) (.t 72), 96, none, []⟩ .done))))) .ret)))))))))), [.cell 4 true 4, .cell 5 true 11]⟩
theorem zcD (G : Nat → V) : zaX Tryz.prog G 10 44 = some L_tomeref25_part := by kernel_rfl
def L_tomeref25_negation : FC :=
 ⟨23, (.seq (.reg (zs 1 (.box 68 (.t 0)) 10 (zs 2 (.alloc 68 [.nils, (.int .i64 0), (.int .i64 0), (.int .i64 0)]) 11 (zs 3 (.alloc 27 zE) 12 .done)))) (.seq (.seq (.reg (zs 6 (.load true 4 (.t 1)) 13 (zs 7 (zc 99 [(.t 6), (.c (.str [110, 111, 116]))]) 14 (zs 8 (.un .not (.t 7)) 15 .done)))) (.cond (.t 8) (.seq (.reg (zs 9 (.load true 4 (.t 1)) 16 (zs 10 (zc 44 [(.t 9), (.c (.int .i64 3))]) 17 (zs 11 (.ext (.t 10) 0) 18 (zs 12 (.ext (.t 10) 1) 19 (.step ⟨none, .store 4 (.t 2) (.t 11), 20, none, []⟩ (.step ⟨none, .store 11 (.t 3) (.t 12), 21, none, []⟩ .done))))))) .ret) .skip)) (.seq (.reg (zs 14 (.load true 4 (.t 1)) 22 (zs 15 (zc 83 [(.t 14)]) 23 (zs 16 (zc 44 [(.t 15), (.c (.int .i64 2))]) 24 (zs 13 (.move (.t 16)) 25 (zs 17 (.ext (.t 13) 0) 26 (zs 18 (.ext (.t 13) 1) 27 (zs 4 (.alloc 68 [.nils, (.int .i64 0), (.int .i64 0), (.int .i64 0)]) 28 (zs 5 (.alloc 27 zE) 29 (.step ⟨none, .store 4 (.t 4) (.t 17), 30, none, []⟩ (.step ⟨none, .store 11 (.t 5) (.t 18), 31, none, []⟩ .done))))))))))) (.seq (.reg (zs 19 (.load true 4 (.t 4)) 32 (zs 20 (.load true 11 (.t 5)) 33 (zs 21 (.bslice 27 11 [(.t 20)]) 34 (zs 22 (.build zE [(0, 1, (.c (.int .i64 3))), (1, 1, (.c (.str [110, 111, 116]))), (10, 1, (.t 21))]) 35 (.step ⟨none, .store 4 (.t 2) (.t 19), 36, none, [5]⟩ (.step ⟨none, .store 11 (.t 3) (.t 22), 37, none, []⟩ .done))))))) .ret)))), [.cell 2 true 4, .cell 3 true 11]⟩
theorem zew (G : Nat → V) : zaX Tryz.prog G 10 78 = some L_tomeref25_negation := by kernel_rfl
def zq3 : RT := (zs 41 (zc 84 [(.t 38), (.t 39), (.t 40)]) 42 (.step ⟨none, .store 4 (.t 2) (.t 37), 43, none, []⟩ (.step ⟨none, .store 11 (.t 3) (.t 41), 44, none, []⟩ .done)))
def L_tomeref25_comparison : FC :=
 ⟨136, (.seq (.reg (zs 1 (.box 68 (.t 0)) 10 (zs 2 (.alloc 68 [.nils, (.int .i64 0), (.int .i64 0), (.int .i64 0)]) 11 (zs 3 (.alloc 27 zE) 12 .done)))) (.seq (.reg (zs 22 (.load true 4 (.t 1)) 13 (zs 23 (zc 44 [(.t 22), (.c (.int .i64 4))]) 14 (zs 21 (.move (.t 23)) 15 (zs 24 (.ext (.t 21) 0) 16 (zs 25 (.ext (.t 21) 1) 17 (zs 4 (.alloc 68 [.nils, (.int .i64 0), (.int .i64 0), (.int .i64 0)]) 18 (zs 5 (.alloc 27 zE) 19 (.step ⟨none, .store 4 (.t 4) (.t 24), 20, none, []⟩ (.step ⟨none, .store 11 (.t 5) (.t 25), 21, none, []⟩ .done)))))))))) (.seq (.reg (zs 26 (.load true 4 (.t 4)) 22 (zs 27 (.bslice 9 1 [(.c (.str [61])), (.c (.str [60, 62])), (.c (.str [60])), (.c (.str [60, 61])), (.c (.str [62])), (.c (.str [62, 61]))]) 23 (zs 28 (zc 82 [(.t 26), (.t 27), (.c (.int .i64 4))]) 24 (zs 6 (.move (.t 28)) 25 .done))))) (.seq (.seq (.reg (zs 29 (.move (.t 6)) 26 (zs 30 (za .neq (.t 29) (.c (.str []))) 27 .done))) (.cond (.t 30) (.seq (.reg (zs 32 (.load true 4 (.t 4)) 28 (zs 33 (zc 83 [(.t 32)]) 29 (zs 34 (zc 44 [(.t 33), (.c (.int .i64 4))]) 30 (zs 31 (.move (.t 34)) 31 (zs 35 (.ext (.t 31) 0) 32 (zs 36 (.ext (.t 31) 1) 33 (zs 7 (.alloc 68 [.nils, (.int .i64 0), (.int .i64 0), (.int .i64 0)]) 34 (zs 8 (.alloc 27 zE) 35 (.step ⟨none, .store 4 (.t 7) (.t 35), 36, none, []⟩ (.step ⟨none, .store 11 (.t 8) (.t 36), 37, none, []⟩ .done))))))))))) (.seq (.reg (zs 37 (.load true 4 (.t 7)) 38 (zs 38 (.move (.t 6)) 39 (.alt (zs 39 (.load true 11 (.t 5)) 40 (zs 40 (.load true 11 (.t 8)) 41 zq3)) (zs 40 (.load true 11 (.t 8)) 41 (zs 39 (.load true 11 (.t 5)) 40 zq3)))))) .ret)) .skip)) (.seq (.seq (.reg (zs 42 (.load true 4 (.t 4)) 45 (zs 43 (zc 99 [(.t 42), (.c (.str [105, 115]))]) 46 .done))) (.cond (.t 43) (.seq (.reg (zs 44 (.load true 4 (.t 4)) 47 (zs 45 (zc 83 [(.t 44)]) 48 (.step ⟨none, .store 4 (.t 4) (.t 45), 49, none, []⟩ .done)))) (.seq (.reg (zs 46 (.load true 4 (.t 4)) 50 (zs 47 (zc 99 [(.t 46), (.c (.str [110, 111, 116]))]) 51 (zs 9 (.move (.t 47)) 52 .done)))) (.seq (.seq (.reg (zs 48 (.move (.t 9)) 53 .done)) (.cond (.t 48) (.reg (zs 49 (.load true 4 (.t 4)) 54 (zs 50 (zc 83 [(.t 49)]) 55 (.step ⟨none, .store 4 (.t 4) (.t 50), 56, none, []⟩ .done)))) .skip)) (.seq (.reg (zs 52 (.load true 4 (.t 4)) 57 (zs 53 (zc 44 [(.t 52), (.c (.int .i64 4))]) 58 (zs 51 (.move (.t 53)) 59 (zs 54 (.ext (.t 51) 0) 60 (zs 55 (.ext (.t 51) 1) 61 (zs 10 (.alloc 68 [.nils, (.int .i64 0), (.int .i64 0), (.int .i64 0)]) 62 (zs 11 (.alloc 27 zE) 63 (.step ⟨none, .store 4 (.t 10) (.t 54), 64, none, []⟩ (.step ⟨none, .store 11 (.t 11) (.t 55), 65, none, []⟩ .done)))))))))) (.seq (.reg (zs 56 (.load true 4 (.t 10)) 66 (zs 57 (.move (.t 9)) 67 (zs 58 (.load true 11 (.t 5)) 68 (zs 59 (.load true 11 (.t 11)) 69 (zs 60 (.bslice 27 11 [(.t 58), (.t 59)]) 70 (zs 61 (.build zE [(0, 1, (.c (.int .i64 5))), (8, 1, (.t 57)), (10, 1, (.t 60))]) 71 (.step ⟨none, .store 4 (.t 2) (.t 56), 72, none, [5, 11]⟩ (.step ⟨none, .store 11 (.t 3) (.t 61), 73, none, []⟩ .done))))))))) .ret))))) .skip)) (.seq (.reg (zs 62 (.load true 4 (.t 4)) 74 (zs 63 (zc 99 [(.t 62), (.c (.str [110, 111, 116]))]) 75 (zs 64 (.move (.t 63)) 76 (.step ⟨(some 65), .load true 4 (.t 4), 77, (some (64, true)), []⟩ (.step ⟨(some 66), zc 100 [(.t 65), (.c (.int .i64 1)), (.c (.int .i64 2)), (.c (.str [105, 110]))], 78, (some (64, true)), []⟩ (.step ⟨(some 67), .move (.t 66), 79, (some (64, true)), []⟩ (.step ⟨(some 68), .load true 4 (.t 4), 80, (some (67, false)), []⟩ (.step ⟨(some 69), zc 100 [(.t 68), (.c (.int .i64 1)), (.c (.int .i64 2)), (.c (.str [98, 101, 116, 119, 101, 101, 110]))], 81, (some (67, false)), []⟩ (.step ⟨(some 70), .pick (.t 67) (.c (.bool true)) (.t 69), 82, (some (64, true)), []⟩ (.step ⟨(some 71), .move (.t 70), 83, (some (64, true)), []⟩ (.step ⟨(some 72), .load true 4 (.t 4), 84, (some (71, false)), []⟩ (.step ⟨(some 73), zc 100 [(.t 72), (.c (.int .i64 1)), (.c (.int .i64 2)), (.c (.str [108, 105, 107, 101]))], 85, (some (71, false)), []⟩ (.step ⟨(some 74), .pick (.t 71) (.c (.bool true)) (.t 73), 86, (some (64, true)), []⟩ (zs 75 (.pick (.t 64) (.t 74) (.c (.bool false))) 87 (zs 12 (.move (.t 75)) 88 .done)))))))))))))))) (.seq (.seq (.reg (zs 76 (.move (.t 12)) 89 .done)) (.cond (.t 76) (.reg (zs 77 (.load true 4 (.t 4)) 90 (zs 78 (zc 83 [(.t 77)]) 91 (.step ⟨none, .store 4 (.t 4) (.t 78), 92, none, []⟩ .done)))) .skip)) (.seq (.seq (.reg (zs 79 (.load true 4 (.t 4)) 93 (zs 80 (zc 99 [(.t 79), (.c (.str [105, 110]))]) 94 .done))) (.cond (.t 80) (.seq (.reg (zs 81 (.load true 4 (.t 4)) 95 (zs 82 (zc 83 [(.t 81)]) 96 (zs 83 (zc 101 [(.t 82), (.c (.int .i64 4)), (.c (.str [40]))]) 97 (.step ⟨none, .store 4 (.t 4) (.t 83), 98, none, []⟩ .done))))) (.seq (.reg (zs 85 (.load true 4 (.t 4)) 99 (zs 86 (zc 102 [(.t 85)]) 100 (zs 84 (.move (.t 86)) 101 (zs 87 (.ext (.t 84) 0) 102 (zs 88 (.ext (.t 84) 1) 103 (zs 13 (.alloc 68 [.nils, (.int .i64 0), (.int .i64 0), (.int .i64 0)]) 104 (.step ⟨none, .store 4 (.t 13) (.t 87), 105, none, []⟩ (zs 14 (.move (.t 88)) 106 .done))))))))) (.seq (.reg (zs 89 (.load true 4 (.t 13)) 107 (zs 90 (zc 101 [(.t 89), (.c (.int .i64 4)), (.c (.str [41]))]) 108 (.step ⟨none, .store 4 (.t 13) (.t 90), 109, none, []⟩ .done)))) (.seq (.reg (zs 91 (.load true 4 (.t 13)) 110 (zs 92 (.move (.t 12)) 111 (zs 95 (.move (.t 14)) 114 (zs 93 (.load true 11 (.t 5)) 112 (zs 94 (.bslice 27 11 [(.t 93)]) 113 (.step ⟨(some 96), .app 27 11 128 (.t 94) (.t 95), 115, none, [13]⟩ (zs 97 (.build zE [(0, 1, (.c (.int .i64 6))), (8, 1, (.t 92)), (10, 1, (.t 96))]) 116 (.step ⟨none, .store 4 (.t 2) (.t 91), 117, none, []⟩ (.step ⟨none, .store 11 (.t 3) (.t 97), 118, none, []⟩ .done)))))))))) .ret)))) .skip)) (.seq (.seq (.reg (zs 98 (.load true 4 (.t 4)) 119 (zs 99 (zc 99 [(.t 98), (.c (.str [98, 101, 116, 119, 101, 101, 110]))]) 120 .done))) (.cond (.t 99) (.seq (.reg (zs 101 (.load true 4 (.t 4)) 121 (zs 102 (zc 83 [(.t 101)]) 122 (zs 103 (zc 44 [(.t 102), (.c (.int .i64 4))]) 123 (zs 100 (.move (.t 103)) 124 (zs 104 (.ext (.t 100) 0) 125 (zs 105 (.ext (.t 100) 1) 126 (zs 15 (.alloc 68 [.nils, (.int .i64 0), (.int .i64 0), (.int .i64 0)]) 127 (zs 16 (.alloc 27 zE) 128 (.step ⟨none, .store 4 (.t 15) (.t 104), 129, none, []⟩ (.step ⟨none, .store 11 (.t 16) (.t 105), 130, none, []⟩ .done))))))))))) (.seq (.reg (zs 106 (.load true 4 (.t 15)) 131 (zs 107 (zc 101 [(.t 106), (.c (.int .i64 2)), (.c (.str [97, 110, 100]))]) 132 (.step ⟨none, .store 4 (.t 15) (.t 107), 133, none, []⟩ .done)))) (.seq (.reg (zs 109 (.load true 4 (.t 15)) 134 (zs 110 (zc 44 [(.t 109), (.c (.int .i64 4))]) 135 (zs 108 (.move (.t 110)) 136 (zs 111 (.ext (.t 108) 0) 137 (zs 112 (.ext (.t 108) 1) 138 (zs 17 (.alloc 68 [.nils, (.int .i64 0), (.int .i64 0), (.int .i64 0)]) 139 (zs 18 (.alloc 27 zE) 140 (.step ⟨none, .store 4 (.t 17) (.t 111), 141, none, []⟩ (.step ⟨none, .store 11 (.t 18) (.t 112), 142, none, []⟩ .done)))))))))) (.seq (.reg (zs 113 (.load true 4 (.t 17)) 143 (zs 114 (.move (.t 12)) 144 (zs 115 (.load true 11 (.t 5)) 145 (zs 116 (.load true 11 (.t 16)) 146 (zs 117 (.load true 11 (.t 18)) 147 (zs 118 (.bslice 27 11 [(.t 115), (.t 116), (.t 117)]) 148 (zs 119 (.build zE [(0, 1, (.c (.int .i64 7))), (8, 1, (.t 114)), (10, 1, (.t 118))]) 149 (.step ⟨none, .store 4 (.t 2) (.t 113), 150, none, [5, 16, 18]⟩ (.step ⟨none, .store 11 (.t 3) (.t 119), 151, none, []⟩ .done)))))))))) .ret)))) .skip)) (.seq (.seq (.reg (zs 120 (.load true 4 (.t 4)) 152 (zs 121 (zc 99 [(.t 120), (.c (.str [108, 105, 107, 101]))]) 153 .done))) (.cond (.t 121) (.seq (.reg (zs 123 (.load true 4 (.t 4)) 154 (zs 124 (zc 83 [(.t 123)]) 155 (zs 125 (zc 44 [(.t 124), (.c (.int .i64 4))]) 156 (zs 122 (.move (.t 125)) 157 (zs 126 (.ext (.t 122) 0) 158 (zs 127 (.ext (.t 122) 1) 159 (zs 19 (.alloc 68 [.nils, (.int .i64 0), (.int .i64 0), (.int .i64 0)]) 160 (zs 20 (.alloc 27 zE) 161 (.step ⟨none, .store 4 (.t 19) (.t 126), 162, none, []⟩ (.step ⟨none, .store 11 (.t 20) (.t 127), 163, none, []⟩ .done))))))))))) (.seq (.reg (zs 128 (.load true 4 (.t 19)) 164 (zs 129 (.move (.t 12)) 165 (zs 130 (.load true 11 (.t 5)) 166 (zs 131 (.load true 11 (.t 20)) 167 (zs 132 (.bslice 27 11 [(.t 130), (.t 131)]) 168 (zs 133 (.build zE [(0, 1, (.c (.int .i64 8))), (8, 1, (.t 129)), (10, 1, (.t 132))]) 169 (.step ⟨none, .store 4 (.t 2) (.t 128), 170, none, [5, 20]⟩ (.step ⟨none, .store 11 (.t 3) (.t 133), 171, none, []⟩ .done))))))))) .ret)) .skip)) (.seq (.reg (zs 134 (.load true 4 (.t 4)) 172 (zs 135 (.load true 11 (.t 5)) 173 (.step ⟨none, .store 4 (.t 2) (.t 134), 174, none, [5]⟩ (.step ⟨none, .store 11 (.t 3) (.t 135), 175, none, []⟩ .done))))) .ret))))))))))), [.cell 2 true 4, .cell 3 true 11]⟩
theorem zdP (G : Nat → V) : zaX Tryz.prog G 10 79 = some L_tomeref25_comparison := by kernel_rfl
def L_tomeref25_list : FC :=
 ⟨31, (.seq (.reg (zs 1 (.box 68 (.t 0)) 10 (zs 2 (.alloc 68 [.nils, (.int .i64 0), (.int .i64 0), (.int .i64 0)]) 11 (zs 3 (.move (.c .nils)) 12 .done)))) (.seq (.reg (zs 10 (.load true 4 (.t 1)) 13 (zs 11 (zc 44 [(.t 10), (.c (.int .i64 0))]) 14 (zs 9 (.move (.t 11)) 15 (zs 12 (.ext (.t 9) 0) 16 (zs 13 (.ext (.t 9) 1) 17 (zs 4 (.alloc 68 [.nils, (.int .i64 0), (.int .i64 0), (.int .i64 0)]) 18 (zs 5 (.alloc 27 zE) 19 (.step ⟨none, .store 4 (.t 4) (.t 12), 20, none, []⟩ (.step ⟨none, .store 11 (.t 5) (.t 13), 21, none, []⟩ .done)))))))))) (.seq (.reg (zs 14 (.load true 11 (.t 5)) 22 (zs 15 (.bslice 27 11 [(.t 14)]) 23 (zs 6 (.move (.t 15)) 24 .done)))) (.seq (.block 0 (.loop (.seq (.seq (.reg (zs 16 (.load true 4 (.t 4)) 25 (zs 17 (zc 103 [(.t 16), (.c (.str [44]))]) 26 .done))) (.cond (.t 17) .skip (.exit 0))) (.block 1 (.seq (.reg (zs 19 (.load true 4 (.t 4)) 27 (zs 20 (zc 83 [(.t 19)]) 28 (zs 21 (zc 44 [(.t 20), (.c (.int .i64 0))]) 29 (zs 18 (.move (.t 21)) 30 (zs 22 (.ext (.t 18) 0) 31 (zs 23 (.ext (.t 18) 1) 32 (zs 7 (.alloc 68 [.nils, (.int .i64 0), (.int .i64 0), (.int .i64 0)]) 33 (zs 8 (.alloc 27 zE) 34 (.step ⟨none, .store 4 (.t 7) (.t 22), 35, none, []⟩ (.step ⟨none, .store 11 (.t 8) (.t 23), 36, none, []⟩ .done))))))))))) (.seq (.reg (zs 24 (.load true 4 (.t 7)) 37 (.step ⟨none, .store 4 (.t 4) (.t 24), 38, none, []⟩ .done))) (.reg (zs 25 (.move (.t 6)) 39 (zs 26 (.load true 11 (.t 8)) 40 (zs 27 (.bslice 27 11 [(.t 26)]) 41 (zs 28 (.app 27 11 128 (.t 25) (.t 27)) 42 (zs 6 (.move (.t 28)) 43 .done)))))))))))) (.seq (.reg (zs 29 (.load true 4 (.t 4)) 44 (zs 30 (.move (.t 6)) 45 (.step ⟨none, .store 4 (.t 2) (.t 29), 46, none, []⟩ (zs 3 (.move (.t 30)) 47 .done))))) .ret))))), [.cell 2 true 4, .tmp 3]⟩
theorem zdL (G : Nat → V) : zaX Tryz.prog G 10 102 = some L_tomeref25_list := by kernel_rfl
def zq4 : RT := (.alt (zs 55 (zl (.t 54)) 65 (zs 56 (.un .neg (.t 55)) 66 (zs 57 (.build [(.int .i64 0), (.int .i64 0), (.str [])] [(0, 1, (.c (.int .i64 1))), (1, 1, (.t 56))]) 67 (zs 58 (.build zE [(0, 1, (.c (.int .i64 1))), (2, 3, (.t 57))]) 68 (.step ⟨none, .store 4 (.t 2) (.t 47), 69, none, []⟩ (.step ⟨none, .store 11 (.t 3) (.t 58), 70, none, []⟩ .done)))))) (.step ⟨none, .store 4 (.t 2) (.t 47), 69, none, []⟩ (zs 55 (zl (.t 54)) 65 (zs 56 (.un .neg (.t 55)) 66 (zs 57 (.build [(.int .i64 0), (.int .i64 0), (.str [])] [(0, 1, (.c (.int .i64 1))), (1, 1, (.t 56))]) 67 (zs 58 (.build zE [(0, 1, (.c (.int .i64 1))), (2, 3, (.t 57))]) 68 (.step ⟨none, .store 11 (.t 3) (.t 58), 70, none, []⟩ .done)))))))
def zq7 : RT := (zs 52 (.iaddr 6 (.t 49) (.t 51)) 62 (zs 53 (.faddr 2 (.t 52)) 63 (zs 54 (.faddr 1 (.t 53)) 64 zq4)))
def zq5 : RT := (zs 52 (.iaddr 6 (.t 49) (.t 51)) 62 (zs 53 (.faddr 2 (.t 52)) 63 (zs 54 (.faddr 1 (.t 53)) 64 (zs 55 (zl (.t 54)) 65 (zs 56 (.un .neg (.t 55)) 66 (zs 57 (.build [(.int .i64 0), (.int .i64 0), (.str [])] [(0, 1, (.c (.int .i64 1))), (1, 1, (.t 56))]) 67 (zs 58 (.build zE [(0, 1, (.c (.int .i64 1))), (2, 3, (.t 57))]) 68 (.step ⟨none, .store 11 (.t 3) (.t 58), 70, none, []⟩ .done))))))))
def zq9 : RT := (.alt (zs 49 (zl (.t 48)) 59 zq7) (.step ⟨none, .store 4 (.t 2) (.t 47), 69, none, []⟩ (zs 49 (zl (.t 48)) 59 zq5)))
def zq8 : RT := (.alt (zs 51 (zl (.t 50)) 61 zq7) (.step ⟨none, .store 4 (.t 2) (.t 47), 69, none, []⟩ (zs 51 (zl (.t 50)) 61 zq5)))
def zq6 : RT := (zs 52 (.iaddr 6 (.t 49) (.t 51)) 62 (zs 53 (.faddr 2 (.t 52)) 63 (zs 54 (.faddr 1 (.t 53)) 64 (.alt (zs 47 (zc 83 [(.t 46)]) 57 zq4) (zs 55 (zl (.t 54)) 65 (zs 56 (.un .neg (.t 55)) 66 (zs 57 (.build [(.int .i64 0), (.int .i64 0), (.str [])] [(0, 1, (.c (.int .i64 1))), (1, 1, (.t 56))]) 67 (zs 58 (.build zE [(0, 1, (.c (.int .i64 1))), (2, 3, (.t 57))]) 68 (zs 47 (zc 83 [(.t 46)]) 57 (.step ⟨none, .store 4 (.t 2) (.t 47), 69, none, []⟩ (.step ⟨none, .store 11 (.t 3) (.t 58), 70, none, []⟩ .done)))))))))))
def L_tomeref25_signed : FC :=
 ⟨69, (.seq (.reg (zs 1 (.box 68 (.t 0)) 10 (zs 2 (.alloc 68 [.nils, (.int .i64 0), (.int .i64 0), (.int .i64 0)]) 11 (zs 3 (.alloc 27 zE) 12 .done)))) (.seq (.seq (.reg (zs 8 (.load true 4 (.t 1)) 13 (zs 9 (zc 103 [(.t 8), (.c (.str [45]))]) 14 (zs 10 (.un .not (.t 9)) 15 (zs 11 (.move (.t 10)) 16 (.step ⟨(some 12), .load true 4 (.t 1), 17, (some (11, true)), []⟩ (.step ⟨(some 13), zc 103 [(.t 12), (.c (.str [43]))], 18, (some (11, true)), []⟩ (.step ⟨(some 14), .un .not (.t 13), 19, (some (11, true)), []⟩ (zs 15 (.pick (.t 11) (.t 14) (.c (.bool false))) 20 .done))))))))) (.cond (.t 15) (.seq (.reg (zs 16 (.load true 4 (.t 1)) 21 (zs 17 (zc 104 [(.t 16)]) 22 (zs 18 (.ext (.t 17) 0) 23 (zs 19 (.ext (.t 17) 1) 24 (.step ⟨none, .store 4 (.t 2) (.t 18), 25, none, []⟩ (.step ⟨none, .store 11 (.t 3) (.t 19), 26, none, []⟩ .done))))))) .ret) .skip)) (.seq (.reg (zs 20 (.faddr 0 (.t 1)) 27 (zs 21 (zl (.t 20)) 28 (zs 22 (.faddr 1 (.t 1)) 29 (zs 23 (zl (.t 22)) 30 (zs 24 (.iaddr 6 (.t 21) (.t 23)) 31 (zs 25 (.faddr 1 (.t 24)) 32 (zs 26 (zl (.t 25)) 33 (zs 4 (.move (.t 26)) 34 .done))))))))) (.seq (.reg (zs 27 (.load true 4 (.t 1)) 35 (zs 28 (zc 83 [(.t 27)]) 36 (zs 5 (.alloc 68 [.nils, (.int .i64 0), (.int .i64 0), (.int .i64 0)]) 37 (.step ⟨none, .store 4 (.t 5) (.t 28), 38, none, []⟩ .done))))) (.seq (.seq (.reg (zs 29 (.move (.t 4)) 39 (zs 30 (za .eql (.t 29) (.c (.str [45]))) 40 (zs 31 (.move (.t 30)) 41 (.step ⟨(some 32), .load true 4 (.t 5), 42, (some (31, true)), []⟩ (.step ⟨(some 33), zc 105 [(.t 32), (.c (.int .i64 3))], 43, (some (31, true)), []⟩ (zs 34 (.pick (.t 31) (.t 33) (.c (.bool false))) 44 (zs 35 (.move (.t 34)) 45 (.step ⟨(some 36), .faddr 0 (.t 5), 46, (some (35, true)), []⟩ (.step ⟨(some 37), zl (.t 36), 47, (some (35, true)), []⟩ (.step ⟨(some 38), .faddr 1 (.t 5), 48, (some (35, true)), []⟩ (.step ⟨(some 39), zl (.t 38), 49, (some (35, true)), []⟩ (.step ⟨(some 40), .iaddr 6 (.t 37) (.t 39), 50, (some (35, true)), []⟩ (.step ⟨(some 41), .faddr 2 (.t 40), 51, (some (35, true)), []⟩ (.step ⟨(some 42), .faddr 0 (.t 41), 52, (some (35, true)), []⟩ (.step ⟨(some 43), zl (.t 42), 53, (some (35, true)), []⟩ (.step ⟨(some 44), za .eql (.t 43) (.c (.int .i64 1)), 54, (some (35, true)), []⟩ (zs 45 (.pick (.t 35) (.t 44) (.c (.bool false))) 55 .done)))))))))))))))))) (.cond (.t 45) (.seq (.reg (zs 46 (.load true 4 (.t 5)) 56 (zs 48 (.faddr 0 (.t 5)) 58 (zs 50 (.faddr 1 (.t 5)) 60 (.alt (zs 47 (zc 83 [(.t 46)]) 57 (.alt (zs 49 (zl (.t 48)) 59 zq8) (.alt (zs 51 (zl (.t 50)) 61 zq9) (.step ⟨none, .store 4 (.t 2) (.t 47), 69, none, []⟩ (zs 49 (zl (.t 48)) 59 (zs 51 (zl (.t 50)) 61 zq5)))))) (.alt (zs 49 (zl (.t 48)) 59 (.alt (zs 47 (zc 83 [(.t 46)]) 57 zq8) (zs 51 (zl (.t 50)) 61 zq6))) (zs 51 (zl (.t 50)) 61 (.alt (zs 47 (zc 83 [(.t 46)]) 57 zq9) (zs 49 (zl (.t 48)) 59 zq6))))))))) .ret) .skip)) (.seq (.reg (zs 60 (.load true 4 (.t 5)) 71 (zs 61 (zc 44 [(.t 60), (.c (.int .i64 7))]) 72 (zs 59 (.move (.t 61)) 73 (zs 62 (.ext (.t 59) 0) 74 (zs 63 (.ext (.t 59) 1) 75 (zs 6 (.alloc 68 [.nils, (.int .i64 0), (.int .i64 0), (.int .i64 0)]) 76 (zs 7 (.alloc 27 zE) 77 (.step ⟨none, .store 4 (.t 6) (.t 62), 78, none, []⟩ (.step ⟨none, .store 11 (.t 7) (.t 63), 79, none, []⟩ .done)))))))))) (.seq (.reg (zs 64 (.load true 4 (.t 6)) 80 (zs 65 (.move (.t 4)) 81 (zs 66 (.load true 11 (.t 7)) 82 (zs 67 (.bslice 27 11 [(.t 66)]) 83 (zs 68 (.build zE [(0, 1, (.c (.int .i64 3))), (1, 1, (.t 65)), (10, 1, (.t 67))]) 84 (.step ⟨none, .store 4 (.t 2) (.t 64), 85, none, [7]⟩ (.step ⟨none, .store 11 (.t 3) (.t 68), 86, none, []⟩ .done)))))))) .ret))))))), [.cell 2 true 4, .cell 3 true 11]⟩
theorem zfq (G : Nat → V) : zaX Tryz.prog G 10 80 = some L_tomeref25_signed := by kernel_rfl
def L_tomeref25_Aggregate : FC :=
 ⟨25, (.seq (.reg (zs 2 (.move (.c (.bool false))) 10 .done)) (.seq (.reg (zs 3 (.move (.t 0)) 11 (zs 4 (za .eql (.t 3) (.c (.str [99, 111, 117, 110, 116]))) 12 (zs 5 (.move (.t 4)) 13 (.step ⟨(some 6), .move (.t 0), 14, (some (5, false)), []⟩ (.step ⟨(some 7), za .eql (.t 6) (.c (.str [115, 117, 109])), 15, (some (5, false)), []⟩ (zs 8 (.pick (.t 5) (.c (.bool true)) (.t 7)) 16 (zs 9 (.move (.t 8)) 17 (.step ⟨(some 10), .move (.t 0), 18, (some (9, false)), []⟩ (.step ⟨(some 11), za .eql (.t 10) (.c (.str [109, 105, 110])), 19, (some (9, false)), []⟩ (zs 12 (.pick (.t 9) (.c (.bool true)) (.t 11)) 20 (zs 13 (.move (.t 12)) 21 (.step ⟨(some 14), .move (.t 0), 22, (some (13, false)), []⟩ (.step ⟨(some 15), za .eql (.t 14) (.c (.str [109, 97, 120])), 23, (some (13, false)), []⟩ (zs 16 (.pick (.t 13) (.c (.bool true)) (.t 15)) 24 (zs 17 (.move (.t 16)) 25 (.step ⟨(some 18), .move (.t 0), 26, (some (17, false)), []⟩ (.step ⟨(some 19), za .eql (.t 18) (.c (.str [97, 118, 103])), 27, (some (17, false)), []⟩ (zs 20 (.pick (.t 17) (.c (.bool true)) (.t 19)) 28 (zs 21 (.move (.t 20)) 29 (.step ⟨(some 22), .move (.t 0), 30, (some (21, false)), []⟩ (.step ⟨(some 23), za .eql (.t 22) (.c (.str [116, 111, 116, 97, 108])), 31, (some (21, false)), []⟩ (zs 24 (.pick (.t 21) (.c (.bool true)) (.t 23)) 32 (zs 2 (.move (.t 24)) 33 .done)))))))))))))))))))))))) .ret)), [.tmp 2]⟩
theorem zee (G : Nat → V) : zaX Tryz.prog G 10 49 = some L_tomeref25_Aggregate := by kernel_rfl
def zq11 : RT := (.alt (zs 18 (.load true 3 (.t 17)) 23 (zs 19 (.build zE [(0, 1, (.c (.int .i64 1))), (2, 3, (.t 18))]) 24 (.step ⟨none, .store 4 (.t 2) (.t 11), 25, none, []⟩ (.step ⟨none, .store 11 (.t 3) (.t 19), 26, none, []⟩ .done)))) (.step ⟨none, .store 4 (.t 2) (.t 11), 25, none, []⟩ (zs 18 (.load true 3 (.t 17)) 23 (zs 19 (.build zE [(0, 1, (.c (.int .i64 1))), (2, 3, (.t 18))]) 24 (.step ⟨none, .store 11 (.t 3) (.t 19), 26, none, []⟩ .done)))))
def zq17 : RT := (zs 16 (.iaddr 6 (.t 13) (.t 15)) 21 (zs 17 (.faddr 2 (.t 16)) 22 zq11))
def zq13 : RT := (zs 16 (.iaddr 6 (.t 13) (.t 15)) 21 (zs 17 (.faddr 2 (.t 16)) 22 (zs 18 (.load true 3 (.t 17)) 23 (zs 19 (.build zE [(0, 1, (.c (.int .i64 1))), (2, 3, (.t 18))]) 24 (.step ⟨none, .store 11 (.t 3) (.t 19), 26, none, []⟩ .done)))))
def zq21 : RT := (.alt (zs 13 (zl (.t 12)) 18 zq17) (.step ⟨none, .store 4 (.t 2) (.t 11), 25, none, []⟩ (zs 13 (zl (.t 12)) 18 zq13)))
def zq20 : RT := (.alt (zs 15 (zl (.t 14)) 20 zq17) (.step ⟨none, .store 4 (.t 2) (.t 11), 25, none, []⟩ (zs 15 (zl (.t 14)) 20 zq13)))
def zq10 : RT := (.alt (zs 84 (zl (.t 83)) 111 (zs 85 (.build zE [(0, 1, (.c (.int .i64 2))), (5, 1, (.t 77)), (6, 1, (.t 84))]) 112 (.step ⟨none, .store 4 (.t 2) (.t 76), 113, none, []⟩ (.step ⟨none, .store 11 (.t 3) (.t 85), 114, none, []⟩ .done)))) (.step ⟨none, .store 4 (.t 2) (.t 76), 113, none, []⟩ (zs 84 (zl (.t 83)) 111 (zs 85 (.build zE [(0, 1, (.c (.int .i64 2))), (5, 1, (.t 77)), (6, 1, (.t 84))]) 112 (.step ⟨none, .store 11 (.t 3) (.t 85), 114, none, []⟩ .done)))))
def zq16 : RT := (zs 82 (.iaddr 6 (.t 79) (.t 81)) 109 (zs 83 (.faddr 1 (.t 82)) 110 zq10))
def zq12 : RT := (zs 82 (.iaddr 6 (.t 79) (.t 81)) 109 (zs 83 (.faddr 1 (.t 82)) 110 (zs 84 (zl (.t 83)) 111 (zs 85 (.build zE [(0, 1, (.c (.int .i64 2))), (5, 1, (.t 77)), (6, 1, (.t 84))]) 112 (.step ⟨none, .store 11 (.t 3) (.t 85), 114, none, []⟩ .done)))))
def zq19 : RT := (.alt (zs 79 (zl (.t 78)) 106 zq16) (.step ⟨none, .store 4 (.t 2) (.t 76), 113, none, []⟩ (zs 79 (zl (.t 78)) 106 zq12)))
def zq18 : RT := (.alt (zs 81 (zl (.t 80)) 108 zq16) (.step ⟨none, .store 4 (.t 2) (.t 76), 113, none, []⟩ (zs 81 (zl (.t 80)) 108 zq12)))
def zq15 : RT := (zs 16 (.iaddr 6 (.t 13) (.t 15)) 21 (zs 17 (.faddr 2 (.t 16)) 22 (.alt (zs 11 (zc 83 [(.t 10)]) 16 zq11) (zs 18 (.load true 3 (.t 17)) 23 (zs 19 (.build zE [(0, 1, (.c (.int .i64 1))), (2, 3, (.t 18))]) 24 (zs 11 (zc 83 [(.t 10)]) 16 (.step ⟨none, .store 4 (.t 2) (.t 11), 25, none, []⟩ (.step ⟨none, .store 11 (.t 3) (.t 19), 26, none, []⟩ .done))))))))
def zq14 : RT := (zs 82 (.iaddr 6 (.t 79) (.t 81)) 109 (zs 83 (.faddr 1 (.t 82)) 110 (.alt (zs 76 (zc 83 [(.t 75)]) 103 zq10) (zs 84 (zl (.t 83)) 111 (zs 85 (.build zE [(0, 1, (.c (.int .i64 2))), (5, 1, (.t 77)), (6, 1, (.t 84))]) 112 (zs 76 (zc 83 [(.t 75)]) 103 (.step ⟨none, .store 4 (.t 2) (.t 76), 113, none, []⟩ (.step ⟨none, .store 11 (.t 3) (.t 85), 114, none, []⟩ .done))))))))
def L_tomeref25_plain : FC :=
 ⟨98, (.seq (.reg (zs 1 (.box 68 (.t 0)) 10 (zs 2 (.alloc 68 [.nils, (.int .i64 0), (.int .i64 0), (.int .i64 0)]) 11 (zs 3 (.alloc 27 zE) 12 .done)))) (.seq (.seq (.reg (zs 8 (.load true 4 (.t 1)) 13 (zs 9 (zc 105 [(.t 8), (.c (.int .i64 3))]) 14 .done))) (.cond (.t 9) (.seq (.reg (zs 10 (.load true 4 (.t 1)) 15 (zs 12 (.faddr 0 (.t 1)) 17 (zs 14 (.faddr 1 (.t 1)) 19 (.alt (zs 11 (zc 83 [(.t 10)]) 16 (.alt (zs 13 (zl (.t 12)) 18 zq20) (.alt (zs 15 (zl (.t 14)) 20 zq21) (.step ⟨none, .store 4 (.t 2) (.t 11), 25, none, []⟩ (zs 13 (zl (.t 12)) 18 (zs 15 (zl (.t 14)) 20 zq13)))))) (.alt (zs 13 (zl (.t 12)) 18 (.alt (zs 11 (zc 83 [(.t 10)]) 16 zq20) (zs 15 (zl (.t 14)) 20 zq15))) (zs 15 (zl (.t 14)) 20 (.alt (zs 11 (zc 83 [(.t 10)]) 16 zq21) (zs 13 (zl (.t 12)) 18 zq15))))))))) .ret) .skip)) (.seq (.seq (.reg (zs 20 (.load true 4 (.t 1)) 27 (zs 21 (zc 99 [(.t 20), (.c (.str [110, 117, 108, 108]))]) 28 .done))) (.cond (.t 21) (.seq (.reg (zs 22 (.load true 4 (.t 1)) 29 (zs 23 (zc 83 [(.t 22)]) 30 (zs 24 (.build zE [(0, 1, (.c (.int .i64 1)))]) 31 (.step ⟨none, .store 4 (.t 2) (.t 23), 32, none, []⟩ (.step ⟨none, .store 11 (.t 3) (.t 24), 33, none, []⟩ .done)))))) .ret) .skip)) (.seq (.seq (.reg (zs 25 (.load true 4 (.t 1)) 34 (zs 26 (zc 99 [(.t 25), (.c (.str [99, 97, 115, 101]))]) 35 .done))) (.cond (.t 26) (.seq (.reg (zs 27 (.load true 4 (.t 1)) 36 (zs 28 (zc 83 [(.t 27)]) 37 (zs 29 (zc 123 [(.t 28)]) 38 (zs 30 (.ext (.t 29) 0) 39 (zs 31 (.ext (.t 29) 1) 40 (.step ⟨none, .store 4 (.t 2) (.t 30), 41, none, []⟩ (.step ⟨none, .store 11 (.t 3) (.t 31), 42, none, []⟩ .done)))))))) .ret) .skip)) (.seq (.seq (.reg (zs 32 (.load true 4 (.t 1)) 43 (zs 33 (zc 99 [(.t 32), (.c (.str [99, 97, 115, 116]))]) 44 .done))) (.cond (.t 33) (.seq (.reg (zs 34 (.load true 4 (.t 1)) 45 (zs 35 (zc 83 [(.t 34)]) 46 (zs 36 (zc 124 [(.t 35)]) 47 (zs 37 (.ext (.t 36) 0) 48 (zs 38 (.ext (.t 36) 1) 49 (.step ⟨none, .store 4 (.t 2) (.t 37), 50, none, []⟩ (.step ⟨none, .store 11 (.t 3) (.t 38), 51, none, []⟩ .done)))))))) .ret) .skip)) (.seq (.seq (.reg (zs 39 (.load true 4 (.t 1)) 52 (zs 40 (zc 103 [(.t 39), (.c (.str [40]))]) 53 .done))) (.cond (.t 40) (.seq (.reg (zs 42 (.load true 4 (.t 1)) 54 (zs 43 (zc 83 [(.t 42)]) 55 (zs 44 (zc 44 [(.t 43), (.c (.int .i64 0))]) 56 (zs 41 (.move (.t 44)) 57 (zs 45 (.ext (.t 41) 0) 58 (zs 46 (.ext (.t 41) 1) 59 (zs 4 (.alloc 68 [.nils, (.int .i64 0), (.int .i64 0), (.int .i64 0)]) 60 (zs 5 (.alloc 27 zE) 61 (.step ⟨none, .store 4 (.t 4) (.t 45), 62, none, []⟩ (.step ⟨none, .store 11 (.t 5) (.t 46), 63, none, []⟩ .done))))))))))) (.seq (.reg (zs 47 (.load true 4 (.t 4)) 64 (zs 49 (.load true 11 (.t 5)) 66 (zs 48 (zc 101 [(.t 47), (.c (.int .i64 4)), (.c (.str [41]))]) 65 (.step ⟨none, .store 4 (.t 2) (.t 48), 67, none, [5]⟩ (.step ⟨none, .store 11 (.t 3) (.t 49), 68, none, []⟩ .done)))))) .ret)) .skip)) (.seq (.seq (.reg (zs 50 (.load true 4 (.t 1)) 69 (zs 51 (zc 105 [(.t 50), (.c (.int .i64 1))]) 70 (zs 52 (.un .not (.t 51)) 71 .done)))) (.cond (.t 52) (.seq (.reg (zs 53 (.load true 4 (.t 1)) 72 (zs 54 (zc 122 [(.t 53)]) 73 (zs 55 (.build zE []) 74 (.step ⟨none, .store 4 (.t 2) (.t 54), 75, none, []⟩ (.step ⟨none, .store 11 (.t 3) (.t 55), 76, none, []⟩ .done)))))) .ret) .skip)) (.seq (.reg (zs 56 (.faddr 0 (.t 1)) 77 (zs 57 (zl (.t 56)) 78 (zs 58 (.faddr 1 (.t 1)) 79 (zs 59 (zl (.t 58)) 80 (zs 60 (.iaddr 6 (.t 57) (.t 59)) 81 (zs 61 (.faddr 1 (.t 60)) 82 (zs 62 (zl (.t 61)) 83 (zs 6 (.move (.t 62)) 84 .done))))))))) (.seq (.reg (zs 63 (.load true 4 (.t 1)) 85 (zs 64 (zc 83 [(.t 63)]) 86 (zs 7 (.alloc 68 [.nils, (.int .i64 0), (.int .i64 0), (.int .i64 0)]) 87 (.step ⟨none, .store 4 (.t 7) (.t 64), 88, none, []⟩ .done))))) (.seq (.seq (.reg (zs 65 (.load true 4 (.t 7)) 89 (zs 66 (zc 103 [(.t 65), (.c (.str [46]))]) 90 .done))) (.cond (.t 66) (.seq (.reg (zs 67 (.load true 4 (.t 7)) 91 (zs 68 (zc 83 [(.t 67)]) 92 (.step ⟨none, .store 4 (.t 7) (.t 68), 93, none, []⟩ .done)))) (.seq (.seq (.reg (zs 69 (.load true 4 (.t 7)) 94 (zs 70 (zc 105 [(.t 69), (.c (.int .i64 1))]) 95 (zs 71 (.un .not (.t 70)) 96 .done)))) (.cond (.t 71) (.seq (.reg (zs 72 (.load true 4 (.t 7)) 97 (zs 73 (zc 122 [(.t 72)]) 98 (zs 74 (.build zE []) 99 (.step ⟨none, .store 4 (.t 2) (.t 73), 100, none, []⟩ (.step ⟨none, .store 11 (.t 3) (.t 74), 101, none, []⟩ .done)))))) .ret) .skip)) (.seq (.reg (zs 75 (.load true 4 (.t 7)) 102 (zs 77 (.move (.t 6)) 104 (zs 78 (.faddr 0 (.t 7)) 105 (zs 80 (.faddr 1 (.t 7)) 107 (.alt (zs 76 (zc 83 [(.t 75)]) 103 (.alt (zs 79 (zl (.t 78)) 106 zq18) (.alt (zs 81 (zl (.t 80)) 108 zq19) (.step ⟨none, .store 4 (.t 2) (.t 76), 113, none, []⟩ (zs 79 (zl (.t 78)) 106 (zs 81 (zl (.t 80)) 108 zq12)))))) (.alt (zs 79 (zl (.t 78)) 106 (.alt (zs 76 (zc 83 [(.t 75)]) 103 zq18) (zs 81 (zl (.t 80)) 108 zq14))) (zs 81 (zl (.t 80)) 108 (.alt (zs 76 (zc 83 [(.t 75)]) 103 zq19) (zs 79 (zl (.t 78)) 106 zq14)))))))))) .ret))) .skip)) (.seq (.seq (.reg (zs 86 (.load true 4 (.t 7)) 115 (zs 87 (zc 103 [(.t 86), (.c (.str [40]))]) 116 .done))) (.cond (.t 87) (.seq (.reg (zs 88 (.load true 4 (.t 7)) 117 (zs 89 (zc 83 [(.t 88)]) 118 (zs 90 (.move (.t 6)) 119 (zs 91 (zc 45 [(.t 90)]) 120 (zs 92 (zc 125 [(.t 89), (.t 91)]) 121 (zs 93 (.ext (.t 92) 0) 122 (zs 94 (.ext (.t 92) 1) 123 (.step ⟨none, .store 4 (.t 2) (.t 93), 124, none, []⟩ (.step ⟨none, .store 11 (.t 3) (.t 94), 125, none, []⟩ .done)))))))))) .ret) .skip)) (.seq (.reg (zs 95 (.load true 4 (.t 7)) 126 (zs 96 (.move (.t 6)) 127 (zs 97 (.build zE [(0, 1, (.c (.int .i64 2))), (6, 1, (.t 96))]) 128 (.step ⟨none, .store 4 (.t 2) (.t 95), 129, none, []⟩ (.step ⟨none, .store 11 (.t 3) (.t 97), 130, none, []⟩ .done)))))) .ret)))))))))))), [.cell 2 true 4, .cell 3 true 11]⟩
theorem zf9 (G : Nat → V) : zaX Tryz.prog G 10 104 = some L_tomeref25_plain := by kernel_rfl
def L_tomeref25_call : FC :=
 ⟨58, (.seq (.reg (zs 2 (.box 68 (.t 0)) 10 (zs 4 (.alloc 68 [.nils, (.int .i64 0), (.int .i64 0), (.int .i64 0)]) 11 (zs 5 (.alloc 27 zE) 12 .done)))) (.seq (.seq (.reg (zs 11 (.move (.t 1)) 13 (zs 12 (zc 49 [(.t 11)]) 14 (zs 13 (.un .not (.t 12)) 15 .done)))) (.cond (.t 13) (.seq (.seq (.reg (zs 14 (.load true 4 (.t 2)) 16 (zs 15 (zc 103 [(.t 14), (.c (.str [41]))]) 17 .done))) (.cond (.t 15) (.seq (.reg (zs 16 (.load true 4 (.t 2)) 18 (zs 17 (zc 83 [(.t 16)]) 19 (zs 18 (.move (.t 1)) 20 (zs 19 (.build zE [(0, 1, (.c (.int .i64 10))), (1, 1, (.t 18))]) 21 (.step ⟨none, .store 4 (.t 4) (.t 17), 22, none, []⟩ (.step ⟨none, .store 11 (.t 5) (.t 19), 23, none, []⟩ .done))))))) .ret) .skip)) (.seq (.reg (zs 21 (.load true 4 (.t 2)) 24 (zs 22 (zc 102 [(.t 21)]) 25 (zs 20 (.move (.t 22)) 26 (zs 23 (.ext (.t 20) 0) 27 (zs 24 (.ext (.t 20) 1) 28 (zs 6 (.alloc 68 [.nils, (.int .i64 0), (.int .i64 0), (.int .i64 0)]) 29 (.step ⟨none, .store 4 (.t 6) (.t 23), 30, none, []⟩ (zs 7 (.move (.t 24)) 31 .done))))))))) (.seq (.reg (zs 25 (.load true 4 (.t 6)) 32 (zs 26 (zc 101 [(.t 25), (.c (.int .i64 4)), (.c (.str [41]))]) 33 (zs 27 (.move (.t 1)) 34 (zs 28 (.move (.t 7)) 35 (zs 29 (.build zE [(0, 1, (.c (.int .i64 10))), (1, 1, (.t 27)), (10, 1, (.t 28))]) 36 (.step ⟨none, .store 4 (.t 4) (.t 26), 37, none, []⟩ (.step ⟨none, .store 11 (.t 5) (.t 29), 38, none, []⟩ .done)))))))) .ret))) .skip)) (.seq (.seq (.reg (zs 30 (.move (.t 1)) 39 (zs 31 (za .eql (.t 30) (.c (.str [99, 111, 117, 110, 116]))) 40 (zs 32 (.move (.t 31)) 41 (.step ⟨(some 33), .load true 4 (.t 2), 42, (some (32, true)), []⟩ (.step ⟨(some 34), zc 103 [(.t 33), (.c (.str [42]))], 43, (some (32, true)), []⟩ (zs 35 (.pick (.t 32) (.t 34) (.c (.bool false))) 44 .done))))))) (.cond (.t 35) (.seq (.reg (zs 36 (.load true 4 (.t 2)) 45 (zs 37 (zc 83 [(.t 36)]) 46 (zs 38 (zc 101 [(.t 37), (.c (.int .i64 4)), (.c (.str [41]))]) 47 (zs 39 (.move (.t 1)) 48 (zs 40 (.build zE [(0, 1, (.c (.int .i64 11))), (1, 1, (.t 39))]) 49 (.step ⟨none, .store 4 (.t 4) (.t 38), 50, none, []⟩ (.step ⟨none, .store 11 (.t 5) (.t 40), 51, none, []⟩ .done)))))))) .ret) .skip)) (.seq (.reg (zs 41 (.load true 4 (.t 2)) 52 (zs 42 (zc 99 [(.t 41), (.c (.str [100, 105, 115, 116, 105, 110, 99, 116]))]) 53 (zs 8 (.move (.t 42)) 54 .done)))) (.seq (.seq (.reg (zs 43 (.move (.t 8)) 55 .done)) (.cond (.t 43) (.reg (zs 44 (.load true 4 (.t 2)) 56 (zs 45 (zc 83 [(.t 44)]) 57 (.step ⟨none, .store 4 (.t 2) (.t 45), 58, none, []⟩ .done)))) .skip)) (.seq (.reg (zs 47 (.load true 4 (.t 2)) 59 (zs 48 (zc 44 [(.t 47), (.c (.int .i64 0))]) 60 (zs 46 (.move (.t 48)) 61 (zs 49 (.ext (.t 46) 0) 62 (zs 50 (.ext (.t 46) 1) 63 (zs 9 (.alloc 68 [.nils, (.int .i64 0), (.int .i64 0), (.int .i64 0)]) 64 (zs 10 (.alloc 27 zE) 65 (.step ⟨none, .store 4 (.t 9) (.t 49), 66, none, []⟩ (.step ⟨none, .store 11 (.t 10) (.t 50), 67, none, []⟩ .done)))))))))) (.seq (.reg (zs 51 (.load true 4 (.t 9)) 68 (zs 53 (.move (.t 1)) 70 (zs 54 (.move (.t 8)) 71 (zs 55 (.load true 11 (.t 10)) 72 (zs 56 (.bslice 27 11 [(.t 55)]) 73 (zs 57 (.build zE [(0, 1, (.c (.int .i64 11))), (1, 1, (.t 53)), (9, 1, (.t 54)), (10, 1, (.t 56))]) 74 (zs 52 (zc 101 [(.t 51), (.c (.int .i64 4)), (.c (.str [41]))]) 69 (.step ⟨none, .store 4 (.t 4) (.t 52), 75, none, [10]⟩ (.step ⟨none, .store 11 (.t 5) (.t 57), 76, none, []⟩ .done)))))))))) .ret))))))), [.cell 4 true 4, .cell 5 true 11]⟩
theorem zgz (G : Nat → V) : zaX Tryz.prog G 10 125 = some L_tomeref25_call := by kernel_rfl
def L_tomeref25_cases : FC :=
 ⟨75, (.seq (.reg (zs 1 (.box 68 (.t 0)) 10 (zs 2 (.alloc 68 [.nils, (.int .i64 0), (.int .i64 0), (.int .i64 0)]) 11 (zs 3 (.alloc 27 zE) 12 .done)))) (.seq (.reg (zs 14 (.build zE [(0, 1, (.c (.int .i64 9)))]) 13 (zs 4 (.alloc 27 zE) 14 (.step ⟨none, .store 11 (.t 4) (.t 14), 15, none, []⟩ .done)))) (.seq (.seq (.reg (zs 15 (.load true 4 (.t 1)) 16 (zs 16 (zc 99 [(.t 15), (.c (.str [119, 104, 101, 110]))]) 17 (zs 17 (.un .not (.t 16)) 18 .done)))) (.cond (.t 17) (.seq (.reg (zs 19 (.load true 4 (.t 1)) 19 (zs 20 (zc 44 [(.t 19), (.c (.int .i64 0))]) 20 (zs 18 (.move (.t 20)) 21 (zs 21 (.ext (.t 18) 0) 22 (zs 22 (.ext (.t 18) 1) 23 (zs 5 (.alloc 68 [.nils, (.int .i64 0), (.int .i64 0), (.int .i64 0)]) 24 (zs 6 (.alloc 27 zE) 25 (.step ⟨none, .store 4 (.t 5) (.t 21), 26, none, []⟩ (.step ⟨none, .store 11 (.t 6) (.t 22), 27, none, []⟩ .done)))))))))) (.seq (.reg (zs 23 (.load true 4 (.t 5)) 28 (.step ⟨none, .store 4 (.t 1) (.t 23), 29, none, []⟩ .done))) (.seq (.reg (zs 24 (.faddr 9 (.t 4)) 30 (.step ⟨none, .store 1 (.t 24) (.c (.bool true)), 31, none, []⟩ .done))) (.reg (zs 25 (.load true 11 (.t 6)) 32 (zs 26 (.bslice 27 11 [(.t 25)]) 33 (zs 27 (.faddr 10 (.t 4)) 34 (.step ⟨none, .store 1 (.t 27) (.t 26), 35, none, []⟩ .done)))))))) .skip)) (.seq (.reg (zs 7 (.move (.c (.bool true))) 36 .done)) (.seq (.block 0 (.loop (.seq (.seq (.reg (zs 28 (.move (.t 7)) 37 (zs 29 (.move (.t 28)) 38 (.step ⟨(some 30), .load true 4 (.t 1), 39, (some (29, false)), []⟩ (.step ⟨(some 31), zc 99 [(.t 30), (.c (.str [119, 104, 101, 110]))], 40, (some (29, false)), []⟩ (zs 32 (.pick (.t 29) (.c (.bool true)) (.t 31)) 41 .done)))))) (.cond (.t 32) .skip (.exit 0))) (.block 1 (.seq (.reg (zs 7 (.move (.c (.bool false))) 42 .done)) (.seq (.reg (zs 34 (.load true 4 (.t 1)) 43 (zs 35 (zc 101 [(.t 34), (.c (.int .i64 2)), (.c (.str [119, 104, 101, 110]))]) 44 (zs 36 (zc 44 [(.t 35), (.c (.int .i64 0))]) 45 (zs 33 (.move (.t 36)) 46 (zs 37 (.ext (.t 33) 0) 47 (zs 38 (.ext (.t 33) 1) 48 (zs 8 (.alloc 68 [.nils, (.int .i64 0), (.int .i64 0), (.int .i64 0)]) 49 (zs 9 (.alloc 27 zE) 50 (.step ⟨none, .store 4 (.t 8) (.t 37), 51, none, []⟩ (.step ⟨none, .store 11 (.t 9) (.t 38), 52, none, []⟩ .done))))))))))) (.seq (.reg (zs 40 (.load true 4 (.t 8)) 53 (zs 41 (zc 101 [(.t 40), (.c (.int .i64 2)), (.c (.str [116, 104, 101, 110]))]) 54 (zs 42 (zc 44 [(.t 41), (.c (.int .i64 0))]) 55 (zs 39 (.move (.t 42)) 56 (zs 43 (.ext (.t 39) 0) 57 (zs 44 (.ext (.t 39) 1) 58 (zs 10 (.alloc 68 [.nils, (.int .i64 0), (.int .i64 0), (.int .i64 0)]) 59 (zs 11 (.alloc 27 zE) 60 (.step ⟨none, .store 4 (.t 10) (.t 43), 61, none, []⟩ (.step ⟨none, .store 11 (.t 11) (.t 44), 62, none, []⟩ .done))))))))))) (.seq (.reg (zs 45 (.load true 4 (.t 10)) 63 (.step ⟨none, .store 4 (.t 1) (.t 45), 64, none, []⟩ .done))) (.reg (zs 46 (.bslice 27 11 []) 65 (zs 47 (.faddr 10 (.t 4)) 66 (zs 48 (zl (.t 47)) 67 (zs 50 (.load true 11 (.t 9)) 69 (zs 51 (.load true 11 (.t 11)) 70 (zs 52 (.bslice 27 11 [(.t 50), (.t 51)]) 71 (.step ⟨(some 49), .app 27 11 128 (.t 46) (.t 48), 68, none, [9, 11]⟩ (zs 53 (.app 27 11 128 (.t 49) (.t 52)) 72 (zs 54 (.faddr 10 (.t 4)) 73 (.step ⟨none, .store 1 (.t 54) (.t 53), 74, none, []⟩ .done))))))))))))))))))) (.seq (.seq (.reg (zs 55 (.load true 4 (.t 1)) 75 (zs 56 (zc 99 [(.t 55), (.c (.str [101, 108, 115, 101]))]) 76 .done))) (.cond (.t 56) (.seq (.reg (zs 58 (.load true 4 (.t 1)) 77 (zs 59 (zc 83 [(.t 58)]) 78 (zs 60 (zc 44 [(.t 59), (.c (.int .i64 0))]) 79 (zs 57 (.move (.t 60)) 80 (zs 61 (.ext (.t 57) 0) 81 (zs 62 (.ext (.t 57) 1) 82 (zs 12 (.alloc 68 [.nils, (.int .i64 0), (.int .i64 0), (.int .i64 0)]) 83 (zs 13 (.alloc 27 zE) 84 (.step ⟨none, .store 4 (.t 12) (.t 61), 85, none, []⟩ (.step ⟨none, .store 11 (.t 13) (.t 62), 86, none, []⟩ .done))))))))))) (.seq (.reg (zs 63 (.load true 4 (.t 12)) 87 (.step ⟨none, .store 4 (.t 1) (.t 63), 88, none, []⟩ .done))) (.reg (zs 64 (.bslice 27 11 []) 89 (zs 65 (.faddr 10 (.t 4)) 90 (zs 66 (zl (.t 65)) 91 (zs 68 (.load true 11 (.t 13)) 93 (zs 69 (.bslice 27 11 [(.t 68)]) 94 (.step ⟨(some 67), .app 27 11 128 (.t 64) (.t 66), 92, none, [13]⟩ (zs 70 (.app 27 11 128 (.t 67) (.t 69)) 95 (zs 71 (.faddr 10 (.t 4)) 96 (.step ⟨none, .store 1 (.t 71) (.t 70), 97, none, []⟩ .done)))))))))))) .skip)) (.seq (.reg (zs 72 (.load true 4 (.t 1)) 98 (zs 74 (.load true 11 (.t 4)) 100 (zs 73 (zc 101 [(.t 72), (.c (.int .i64 2)), (.c (.str [101, 110, 100]))]) 99 (.step ⟨none, .store 4 (.t 2) (.t 73), 101, none, [4]⟩ (.step ⟨none, .store 11 (.t 3) (.t 74), 102, none, []⟩ .done)))))) .ret))))))), [.cell 2 true 4, .cell 3 true 11]⟩
theorem zgb (G : Nat → V) : zaX Tryz.prog G 10 123 = some L_tomeref25_cases := by kernel_rfl
def L_tomeref25_cast : FC :=
 ⟨59, (.seq (.reg (zs 1 (.box 68 (.t 0)) 10 (zs 2 (.alloc 68 [.nils, (.int .i64 0), (.int .i64 0), (.int .i64 0)]) 11 (zs 3 (.alloc 27 zE) 12 .done)))) (.seq (.reg (zs 8 (.load true 4 (.t 1)) 13 (zs 9 (zc 101 [(.t 8), (.c (.int .i64 4)), (.c (.str [40]))]) 14 (zs 10 (zc 44 [(.t 9), (.c (.int .i64 0))]) 15 (zs 7 (.move (.t 10)) 16 (zs 11 (.ext (.t 7) 0) 17 (zs 12 (.ext (.t 7) 1) 18 (zs 4 (.alloc 68 [.nils, (.int .i64 0), (.int .i64 0), (.int .i64 0)]) 19 (zs 5 (.alloc 27 zE) 20 (.step ⟨none, .store 4 (.t 4) (.t 11), 21, none, []⟩ (.step ⟨none, .store 11 (.t 5) (.t 12), 22, none, []⟩ .done))))))))))) (.seq (.reg (zs 13 (.load true 4 (.t 4)) 23 (zs 14 (zc 101 [(.t 13), (.c (.int .i64 2)), (.c (.str [97, 115]))]) 24 (.step ⟨none, .store 4 (.t 4) (.t 14), 25, none, []⟩ .done)))) (.seq (.seq (.reg (zs 15 (.faddr 2 (.t 4)) 26 (zs 16 (zl (.t 15)) 27 (zs 17 (za .neq (.t 16) (.c (.int .i64 0))) 28 .done)))) (.cond (.t 17) (.seq (.reg (zs 18 (.load true 4 (.t 4)) 29 (zs 19 (.build zE []) 30 (.step ⟨none, .store 4 (.t 2) (.t 18), 31, none, []⟩ (.step ⟨none, .store 11 (.t 3) (.t 19), 32, none, []⟩ .done))))) .ret) .skip)) (.seq (.seq (.reg (zs 20 (.load true 4 (.t 4)) 33 (zs 21 (zc 105 [(.t 20), (.c (.int .i64 2))]) 34 (zs 22 (.un .not (.t 21)) 35 (zs 23 (.move (.t 22)) 36 (.step ⟨(some 24), .load true 4 (.t 4), 37, (some (23, true)), []⟩ (.step ⟨(some 25), zc 105 [(.t 24), (.c (.int .i64 1))], 38, (some (23, true)), []⟩ (.step ⟨(some 26), .un .not (.t 25), 39, (some (23, true)), []⟩ (zs 27 (.pick (.t 23) (.t 26) (.c (.bool false))) 40 .done))))))))) (.cond (.t 27) (.seq (.reg (zs 28 (.load true 4 (.t 4)) 41 (zs 29 (zc 122 [(.t 28)]) 42 (zs 30 (.build zE []) 43 (.step ⟨none, .store 4 (.t 2) (.t 29), 44, none, []⟩ (.step ⟨none, .store 11 (.t 3) (.t 30), 45, none, []⟩ .done)))))) .ret) .skip)) (.seq (.reg (zs 31 (.faddr 0 (.t 4)) 46 (zs 32 (zl (.t 31)) 47 (zs 33 (.faddr 1 (.t 4)) 48 (zs 34 (zl (.t 33)) 49 (zs 35 (.iaddr 6 (.t 32) (.t 34)) 50 (zs 36 (.faddr 1 (.t 35)) 51 (zs 37 (zl (.t 36)) 52 (zs 38 (zc 45 [(.t 37)]) 53 (zs 6 (.move (.t 38)) 54 .done)))))))))) (.seq (.seq (.reg (zs 39 (.move (.t 6)) 55 (zs 40 (za .neq (.t 39) (.c (.str [105, 110, 116]))) 56 (zs 41 (.move (.t 40)) 57 (.step ⟨(some 42), .move (.t 6), 58, (some (41, true)), []⟩ (.step ⟨(some 43), za .neq (.t 42) (.c (.str [116, 101, 120, 116])), 59, (some (41, true)), []⟩ (zs 44 (.pick (.t 41) (.t 43) (.c (.bool false))) 60 (zs 45 (.move (.t 44)) 61 (.step ⟨(some 46), .move (.t 6), 62, (some (45, true)), []⟩ (.step ⟨(some 47), za .neq (.t 46) (.c (.str [98, 108, 111, 98])), 63, (some (45, true)), []⟩ (zs 48 (.pick (.t 45) (.t 47) (.c (.bool false))) 64 .done))))))))))) (.cond (.t 48) (.seq (.reg (zs 49 (.load true 4 (.t 4)) 65 (zs 50 (zc 122 [(.t 49)]) 66 (zs 51 (.build zE []) 67 (.step ⟨none, .store 4 (.t 2) (.t 50), 68, none, []⟩ (.step ⟨none, .store 11 (.t 3) (.t 51), 69, none, []⟩ .done)))))) .ret) .skip)) (.seq (.reg (zs 52 (.load true 4 (.t 4)) 70 (zs 55 (.move (.t 6)) 73 (zs 56 (.load true 11 (.t 5)) 74 (zs 57 (.bslice 27 11 [(.t 56)]) 75 (zs 58 (.build zE [(0, 1, (.c (.int .i64 12))), (1, 1, (.t 55)), (10, 1, (.t 57))]) 76 (zs 53 (zc 83 [(.t 52)]) 71 (zs 54 (zc 101 [(.t 53), (.c (.int .i64 4)), (.c (.str [41]))]) 72 (.step ⟨none, .store 4 (.t 2) (.t 54), 77, none, [5]⟩ (.step ⟨none, .store 11 (.t 3) (.t 58), 78, none, []⟩ .done)))))))))) .ret)))))))), [.cell 2 true 4, .cell 3 true 11]⟩
theorem zgy (G : Nat → V) : zaX Tryz.prog G 10 124 = some L_tomeref25_cast := by kernel_rfl
end Go.Proofs.YtakegkongmnekaaGreatDoor
namespace Go.Proofs.YtakegkongmnekaaGreatDoor
open Go.RowKit
open Vm
attribute [local irreducible] wpR wpC
def rdV (L : List Lx.TA) (a b w : Int) : Vm.V := .agg [.list (L.map tokM), .int .i64 a, .int .i64 b, .int .i64 w]
def rdC (L : List Lx.TA) (a b w : Int) : List Vm.V := [.list (L.map tokM), .int .i64 a, .int .i64 b, .int .i64 w]
theorem zcu (t : Lx.TA) : (tokM t).size = 6 := rfl
theorem zdl (t : Lx.TA) : (tokM t).cells = [.int .i64 t.1.kind, .str t.1.text, .int .i64 t.1.val.1, .int .i64 t.1.val.2.1, .str t.1.val.2.2, .int .i64 (t.2 : Int)] := rfl
section
variable {G : Nat → Vm.V} {L : List Lx.TA}
def atR (L : List Lx.TA) (b : Int) (p : Nat) (k : Int) (s : List UInt8) : Bool := decide (b = 0) && Ex.isT (L.map (·.1)) p k s
theorem r_at (p a : Nat) (b w k : Int) (s : List UInt8) (hL : L.length ≤ 999999) (hp : p ≤ 2000000) (ha : a ≤ 2) :
  Ret Tryz.prog G 100 [rdV L p b w, .int .i64 (a : Int), .int .i64 k, .str s] (.bool (atR L b (p + a) k s)) := by
 refine za7 (zh7 G) (by simp [L_tomeref25_at]) ?_
 show wpC _ _ 0 (panK 0 _) _ (retK 0 _ _) (mkX [(0, _), (1, _), (2, _), (3, _)] [])
 simp only [L_tomeref25_at, zs, za, zl, zc, zE, rdV]
 have e1 : ((p : Int) + (a : Int)).toNat = p + a := by omega
 have e2 := zcu
 have e3 : ¬ (p : Int) + (a : Int) < (L.length : Int) → L[p + a]? = none := fun h => by simp; omega
 repeat' (first
  | refine ww ?_ | (refine ixl ?_; intro a ha) | (refine ixs ?_; intro c hc)
  | (refine cz ?_ ?_ <;> intro hb)
  | refine zah ?_ ?_)
 all_goals
  try have e4 : p + a < L.length := by omega
  simp_all [atR, Ex.isT]
theorem r_word (p : Nat) (b w : Int) (s : List UInt8) (hL : L.length ≤ 999999) (hp : p ≤ 2000000) :
  Ret Tryz.prog G 99 [rdV L p b w, .str s] (.bool (atR L b p 2 s)) := by
 refine za7 (zgu G) (by simp [L_tomeref25_word]) ?_
 show wpC _ _ 0 (panK 0 _) _ (retK 0 _ _) (mkX [(0, _), (1, _)] [])
 simp only [L_tomeref25_word, zs, za, zl, zc, zE, rdV]
 repeat' (first
  | refine ww ?_ | (refine ixl ?_; intro a ha) | (refine ixs ?_; intro c hc)
  | (refine cr (r_at p 0 b w 2 s hL hp (by omega)) ?_)
  | (refine cz ?_ ?_ <;> intro hb)
  | refine zah ?_ ?_)
 rfl
theorem r_mark (p : Nat) (b w : Int) (s : List UInt8) (hL : L.length ≤ 999999) (hp : p ≤ 2000000) :
  Ret Tryz.prog G 103 [rdV L p b w, .str s] (.bool (atR L b p 4 s)) := by
 refine za7 (zgw G) (by simp [L_tomeref25_mark]) ?_
 show wpC _ _ 0 (panK 0 _) _ (retK 0 _ _) (mkX [(0, _), (1, _)] [])
 simp only [L_tomeref25_mark, zs, za, zl, zc, zE, rdV]
 repeat' (first
  | refine ww ?_ | (refine ixl ?_; intro a ha) | (refine ixs ?_; intro c hc)
  | (refine cr (r_at p 0 b w 4 s hL hp (by omega)) ?_)
  | (refine cz ?_ ?_ <;> intro hb)
  | refine zah ?_ ?_)
 rfl
def kindR (L : List Lx.TA) (b : Int) (p : Nat) (k : Int) : Bool := decide (b = 0) && Ex.isK (L.map (·.1)) p k
theorem r_kind (p : Nat) (b w k : Int) (hL : L.length ≤ 999999) (hp : p ≤ 2000000) :
  Ret Tryz.prog G 105 [rdV L p b w, .int .i64 k] (.bool (kindR L b p k)) := by
 refine za7 (zgx G) (by simp [L_tomeref25_kind]) ?_
 show wpC _ _ 0 (panK 0 _) _ (retK 0 _ _) (mkX [(0, _), (1, _)] [])
 simp only [L_tomeref25_kind, zs, za, zl, zc, zE, rdV]
 have e2 := zcu
 repeat' (first
  | refine ww ?_ | (refine ixl ?_; intro a ha) | (refine ixs ?_; intro c hc)
  | (refine cz ?_ ?_ <;> intro hb)
  | refine zah ?_ ?_)
 all_goals simp_all [kindR, Ex.isK]
 rfl
theorem r_next (p : Nat) (b w : Int) (hp : p ≤ 2000000) :
  Ret Tryz.prog G 83 [rdV L p b w] (rdV L ((p + 1 : Nat) : Int) b w) := by
 refine za7 (zgv G) (by simp [L_tomeref25_next]) ?_
 show wpC _ _ 0 (panK 0 _) _ (retK 0 _ _) (mkX [(0, _)] [])
 simp only [L_tomeref25_next, zs, za, zl, zc, zE, rdV]
 repeat' (first
  | refine ww ?_ | (refine ixl ?_; intro a ha) | (refine ixs ?_; intro c hc)
  | (refine cz ?_ ?_ <;> intro hb)
  | refine zah ?_ ?_)
 simp
theorem r_fail (p : Nat) (w : Int) (hp : p ≤ L.length) :
  Ret Tryz.prog G 122 [rdV L p 0 w] (rdV L p 20 p) := by
 refine za7 (zdM G) (by simp [L_tomeref25_fail]) ?_
 show wpC _ _ 0 (panK 0 _) _ (retK 0 _ _) (mkX [(0, _)] [])
 simp only [L_tomeref25_fail, zs, za, zl, zc, zE, rdV]
 have e3 : ¬ (L.length : Int) < (p : Int) := by omega
 repeat' (first
  | refine ww ?_ | (refine ixl ?_; intro a ha) | (refine ixs ?_; intro c hc)
  | (refine cz ?_ ?_ <;> intro hb)
  | refine zah ?_ ?_)
 rfl
theorem zmc (p : Nat) (b w : Int) (hb : b ≠ 0) :
  Ret Tryz.prog G 122 [rdV L p b w] (rdV L p b w) := by
 refine za7 (zdM G) (by simp [L_tomeref25_fail]) ?_
 show wpC _ _ 0 (panK 0 _) _ (retK 0 _ _) (mkX [(0, _)] [])
 simp only [L_tomeref25_fail, zs, za, zl, zc, zE, rdV]
 repeat' (first
  | refine ww ?_ | (refine ixl ?_; intro a ha) | (refine ixs ?_; intro c hc)
  | (refine cz ?_ ?_ <;> intro hb)
  | refine zah ?_ ?_)
 rfl
theorem zbI (p : Nat) (w k : Int) (s : List UInt8) (hL : L.length ≤ 999999) (ht : Ex.isT (L.map (·.1)) p k s = true) :
  Ret Tryz.prog G 101 [rdV L p 0 w, .int .i64 k, .str s] (rdV L ((p + 1 : Nat) : Int) 0 w) := by
 refine za7 (zcE G) (by simp [L_tomeref25_need]) ?_
 show wpC _ _ 0 (panK 0 _) _ (retK 0 _ _) (mkX [(0, _), (1, _), (2, _)] [])
 have hrd : ∀ a b w, rdV L a b w = .agg [.list (L.map tokM), .int .i64 a, .int .i64 b, .int .i64 w] := fun _ _ _ => rfl
 have hp : p < L.length := by simpa using Ex.isT_lt ht
 have ha : atR L 0 p k s = true := by simp [atR, ht]
 simp only [L_tomeref25_need, zs, za, zl, zc, zE]
 repeat' (first
  | refine ww ?_ | (refine ixl ?_; intro a ha) | (refine ixs ?_; intro c hc)
  | (refine cr (r_at p 0 0 w k s hL (by omega) (by omega)) ?_)
  | (refine cr (r_next p 0 w (by omega)) ?_)
  | (refine cz ?_ ?_ <;> intro hb)
  | refine zah ?_ ?_)
 rfl
theorem za2 (p : Nat) (w k : Int) (s : List UInt8) (hL : L.length ≤ 999999) (hp : p ≤ L.length) (ht : Ex.isT (L.map (·.1)) p k s = false) :
  Ret Tryz.prog G 101 [rdV L p 0 w, .int .i64 k, .str s] (rdV L p 20 p) := by
 refine za7 (zcE G) (by simp [L_tomeref25_need]) ?_
 show wpC _ _ 0 (panK 0 _) _ (retK 0 _ _) (mkX [(0, _), (1, _), (2, _)] [])
 have hrd : ∀ a b w, rdV L a b w = .agg [.list (L.map tokM), .int .i64 a, .int .i64 b, .int .i64 w] := fun _ _ _ => rfl
 have ha : atR L 0 p k s = false := by simp [atR, ht]
 simp only [L_tomeref25_need, zs, za, zl, zc, zE]
 repeat' (first
  | refine ww ?_ | (refine ixl ?_; intro a ha) | (refine ixs ?_; intro c hc)
  | (refine cr (r_at p 0 0 w k s hL (by omega) (by omega)) ?_)
  | (refine cr (r_fail p w hp) ?_)
  | (refine cz ?_ ?_ <;> intro hb)
  | refine zah ?_ ?_)
 rfl
theorem r_need_b (p : Nat) (b w k : Int) (s : List UInt8) (hL : L.length ≤ 999999) (hp : p ≤ L.length) (hb : b ≠ 0) :
  Ret Tryz.prog G 101 [rdV L p b w, .int .i64 k, .str s] (rdV L p b w) := by
 refine za7 (zcE G) (by simp [L_tomeref25_need]) ?_
 show wpC _ _ 0 (panK 0 _) _ (retK 0 _ _) (mkX [(0, _), (1, _), (2, _)] [])
 have hrd : ∀ a b w, rdV L a b w = .agg [.list (L.map tokM), .int .i64 a, .int .i64 b, .int .i64 w] := fun _ _ _ => rfl
 have ha : atR L b p k s = false := by simp [atR, hb]
 simp only [L_tomeref25_need, zs, za, zl, zc, zE]
 repeat' (first
  | refine ww ?_ | (refine ixl ?_; intro a ha) | (refine ixs ?_; intro c hc)
  | (refine cr (r_at p 0 b w k s hL (by omega) (by omega)) ?_)
  | (refine cr (zmc p b w hb) ?_)
  | (refine cz ?_ ?_ <;> intro hb)
  | refine zah ?_ ?_)
 rfl
theorem r_two (op : List UInt8) (a b : Ex.E) :
  Ret Tryz.prog G 84 [.str op, .agg (expC a), .agg (expC b)] (.agg (expC (Ex.eBin op a b))) := by
 refine za7 (zed G) (by simp [L_tomeref25_two]) ?_
 show wpC _ _ 0 (panK 0 _) _ (retK 0 _ _) (mkX [(0, _), (1, _), (2, _)] [])
 simp only [L_tomeref25_two, zs, za, zl, zc, zE]
 have x0 := zx
 repeat' (first
  | refine ww ?_ | (refine ixl ?_; intro a ha) | (refine ixs ?_; intro c hc)
  | (refine cz ?_ ?_ <;> intro hb)
  | refine zah ?_ ?_)
 exact (by first | rfl | (simp [expC, Ex.eUn, Ex.eBin, Ex.eIs, Ex.eIn, Ex.eBtw, Ex.zaY, Ex.eVal, Ex.eCol, Ex.eCase, Ex.eFn, Ex.eAgg, Ex.za0, Ex.v0]; first | done | rfl | exact ⟨rfl, rfl⟩))
theorem zeM (s : List UInt8) : Ret Tryz.prog G 49 [.str s] (.bool (Ex.aggs.contains s)) := by
 refine za7 (zee G) (by simp [L_tomeref25_Aggregate]) ?_
 show wpC _ _ 0 (panK 0 _) _ (retK 0 _ _) (mkX [(0, _)] [])
 simp only [L_tomeref25_Aggregate, zs, za, zl, zc, zE]
 repeat' (first
  | refine ww ?_ | (refine ixl ?_; intro a ha) | (refine ixs ?_; intro c hc)
  | (refine cz ?_ ?_ <;> intro hb)
  | refine zah ?_ ?_)
 all_goals simp_all [Ex.aggs, Ex.zbr]
 by_cases h : s = [116, 111, 116, 97, 108] <;> simp [h]
theorem r_level (k : Nat) (hk : k = 0 ∨ k = 1 ∨ k = 4 ∨ k = 5 ∨ k = 6) : Ret Tryz.prog G 81 [.int .i64 (k : Int)] (.tup [.list ((Ex.ops k).1.map Vm.V.str), .int .i64 (Ex.ops k).2]) := by
 refine za7 (zga G) (by simp [L_tomeref25_level]) ?_
 show wpC _ _ 0 (panK 0 _) _ (retK 0 _ _) (mkX [(0, _)] [])
 simp only [L_tomeref25_level, zs, za, zl, zc, zE]
 rcases hk with rfl | rfl | rfl | rfl | rfl
 all_goals
  repeat' (first
   | refine ww ?_ | (refine ixl ?_; intro a ha) | (refine ixs ?_; intro c hc)
   | (refine cz ?_ ?_ <;> intro hb)
   | refine zah ?_ ?_)
  rfl
theorem zot (p : Nat) (b w k : Int) (l : List (List UInt8)) (hL : L.length ≤ 999999) (hp : p ≤ L.length) (hl : l.length ≤ 9) :
  Ret Tryz.prog G 82 [rdV L p b w, .list (l.map Vm.V.str), .int .i64 k] (.str (if b = 0 then (Ex.oneOf (L.map (·.1)) p k l).getD [] else [])) := by
 refine za7 (zf8 G) (by simp [L_tomeref25_which]) ?_
 show wpC _ _ 0 (panK 0 _) _ (retK 0 _ _) (mkX [(0, _), (1, _), (2, _)] [])
 have hrd : ∀ a b w, rdV L a b w = .agg [.list (L.map tokM), .int .i64 a, .int .i64 b, .int .i64 w] := fun _ _ _ => rfl
 simp only [L_tomeref25_which, zs, za, zl, zc, zE]
 repeat' (first
  | refine ww ?_ | (refine ixl ?_; intro a ha) | (refine ixs ?_; intro c hc)
  | (refine cz ?_ ?_ <;> intro hb)
  | refine zah ?_ ?_)
 refine lp [1, 2, 3, 7] [10] (fun i : Nat => [(1, .list (l.map Vm.V.str)), (2, .int .i64 k), (3, .ptr 10 0), (7, .int .i64 (i : Int))]) (fun i => [(10, .blk 68 (rdC L p b w))])
  (fun i => i ≤ l.length ∧ (if b = 0 then (Ex.oneOf (L.map (·.1)) p k l).getD [] else []) = (if b = 0 then (Ex.oneOf (L.map (·.1)) p k (l.drop i)).getD [] else [])) (fun i => l.length - i) 0 ⟨Nat.zero_le _, rfl⟩ ?_ lo (by simp only [rdC]; exact le)
 rintro i ⟨hi, hJ⟩
 rw [hJ]
 clear hJ
 simp only [rdC]
 repeat' (first
  | refine ww ?_ | (refine ixl ?_; intro a ha) | (refine ixs ?_; intro c hc)
  | (refine cr (r_at p 0 b w k _ hL (by omega) (by omega)) ?_)
  | (refine cz ?_ ?_ <;> intro hb)
  | refine zah ?_ ?_)
 ·have hlt : i < l.length := by assumption
  have hat : atR L b p k l[i] = true := by assumption
  rw [List.drop_eq_getElem_cons hlt]
  simp only [atR, Bool.and_eq_true, decide_eq_true_eq] at hat
  simp [Ex.oneOf, hat]
 ·have hlt : i < l.length := by assumption
  have hat : atR L b p k l[i] = false := by assumption
  refine ⟨i + 1, ⟨hlt, ?_⟩, by omega, lo, le⟩
  rw [List.drop_eq_getElem_cons hlt]
  by_cases h0 : b = 0
  ·simp_all [atR, Ex.oneOf]
  ·simp [h0]
 ·skip
  rw [List.drop_eq_nil_of_le (by omega)]
  simp [Ex.oneOf]
theorem q_at (a w k : Int) (i : Nat) (s : List UInt8) (hL : L.length ≤ 999999) (h0 : 0 ≤ a) (h1 : a ≤ 2000000) (hi : i ≤ 2) :
  Ret Tryz.prog G 100 [rdV L a 0 w, .int .i64 (i : Int), .int .i64 k, .str s] (.bool (Ex.isT (L.map (·.1)) (a.toNat + i) k s)) := by
 have := r_at (G := G) (L := L) a.toNat i 0 w k s hL (by omega) hi
 rw [Int.toNat_of_nonneg h0] at this
 simpa [atR] using this
theorem q_word (a w : Int) (s : List UInt8) (hL : L.length ≤ 999999) (h0 : 0 ≤ a) (h1 : a ≤ 2000000) :
  Ret Tryz.prog G 99 [rdV L a 0 w, .str s] (.bool (Ex.isT (L.map (·.1)) a.toNat 2 s)) := by
 have := r_word (G := G) (L := L) a.toNat 0 w s hL (by omega)
 rw [Int.toNat_of_nonneg h0] at this
 simpa [atR] using this
theorem q_mark (a w : Int) (s : List UInt8) (hL : L.length ≤ 999999) (h0 : 0 ≤ a) (h1 : a ≤ 2000000) :
  Ret Tryz.prog G 103 [rdV L a 0 w, .str s] (.bool (Ex.isT (L.map (·.1)) a.toNat 4 s)) := by
 have := r_mark (G := G) (L := L) a.toNat 0 w s hL (by omega)
 rw [Int.toNat_of_nonneg h0] at this
 simpa [atR] using this
theorem q_kind (a w k : Int) (hL : L.length ≤ 999999) (h0 : 0 ≤ a) (h1 : a ≤ 2000000) :
  Ret Tryz.prog G 105 [rdV L a 0 w, .int .i64 k] (.bool (Ex.isK (L.map (·.1)) a.toNat k)) := by
 have := r_kind (G := G) (L := L) a.toNat 0 w k hL (by omega)
 rw [Int.toNat_of_nonneg h0] at this
 simpa [kindR] using this
theorem q_next (a b w : Int) (h0 : 0 ≤ a) (h1 : a ≤ 2000000) : Ret Tryz.prog G 83 [rdV L a b w] (rdV L (a + 1) b w) := by
 have := r_next (G := G) (L := L) a.toNat b w (by omega)
 rw [Int.toNat_of_nonneg h0] at this
 simpa [Int.toNat_of_nonneg h0] using this
theorem q_fail (a w : Int) (h0 : 0 ≤ a) (h1 : a ≤ L.length) : Ret Tryz.prog G 122 [rdV L a 0 w] (rdV L a 20 a) := by
 have := r_fail (G := G) (L := L) a.toNat w (by omega)
 rwa [Int.toNat_of_nonneg h0] at this
theorem zli (a w k : Int) (l : List (List UInt8)) (hL : L.length ≤ 999999) (hl : l.length ≤ 9) (h0 : 0 ≤ a) (h1 : a ≤ L.length) :
  Ret Tryz.prog G 82 [rdV L a 0 w, .list (l.map Vm.V.str), .int .i64 k] (.str ((Ex.oneOf (L.map (·.1)) a.toNat k l).getD [])) := by
 have := zot (G := G) (L := L) a.toNat 0 w k l hL (by omega) hl
 rw [Int.toNat_of_nonneg h0] at this
 simpa using this
theorem b_at (a b w k : Int) (i : Nat) (s : List UInt8) (hL : L.length ≤ 999999) (h0 : 0 ≤ a) (h1 : a ≤ 2000000) (hi : i ≤ 2) (hb : b ≠ 0) :
  Ret Tryz.prog G 100 [rdV L a b w, .int .i64 (i : Int), .int .i64 k, .str s] (.bool false) := by
 have := r_at (G := G) (L := L) a.toNat i b w k s hL (by omega) hi
 rw [Int.toNat_of_nonneg h0] at this
 simpa [atR, hb] using this
theorem b_word (a b w : Int) (s : List UInt8) (hL : L.length ≤ 999999) (h0 : 0 ≤ a) (h1 : a ≤ 2000000) (hb : b ≠ 0) :
  Ret Tryz.prog G 99 [rdV L a b w, .str s] (.bool false) := by
 have := r_word (G := G) (L := L) a.toNat b w s hL (by omega)
 rw [Int.toNat_of_nonneg h0] at this
 simpa [atR, hb] using this
theorem zpI (a b w : Int) (s : List UInt8) (hL : L.length ≤ 999999) (h0 : 0 ≤ a) (h1 : a ≤ 2000000) (hb : b ≠ 0) :
  Ret Tryz.prog G 103 [rdV L a b w, .str s] (.bool false) := by
 have := r_mark (G := G) (L := L) a.toNat b w s hL (by omega)
 rw [Int.toNat_of_nonneg h0] at this
 simpa [atR, hb] using this
theorem zlJ (a b w k : Int) (l : List (List UInt8)) (hL : L.length ≤ 999999) (hl : l.length ≤ 9) (h0 : 0 ≤ a) (h1 : a ≤ L.length) (hb : b ≠ 0) :
  Ret Tryz.prog G 82 [rdV L a b w, .list (l.map Vm.V.str), .int .i64 k] (.str []) := by
 have := zot (G := G) (L := L) a.toNat b w k l hL (by omega) hl
 rw [Int.toNat_of_nonneg h0] at this
 simpa [hb] using this
theorem b_need (a b w k : Int) (s : List UInt8) (hL : L.length ≤ 999999) (h0 : 0 ≤ a) (h1 : a ≤ L.length) (hb : b ≠ 0) :
  Ret Tryz.prog G 101 [rdV L a b w, .int .i64 k, .str s] (rdV L a b w) := by
 have := r_need_b (G := G) (L := L) a.toNat b w k s hL (by omega) hb
 rwa [Int.toNat_of_nonneg h0] at this
theorem b_fail (a b w : Int) (h0 : 0 ≤ a) (hb : b ≠ 0) : Ret Tryz.prog G 122 [rdV L a b w] (rdV L a b w) := by
 have := zmc (G := G) (L := L) a.toNat b w hb
 rwa [Int.toNat_of_nonneg h0] at this
end
end Go.Proofs.YtakegkongmnekaaGreatDoor
namespace Go.Proofs.YtakegkongmnekaaGreatDoor
open Go.RowKit
open Vm
attribute [local irreducible] wpR wpC
structure Cells (cs : List Vm.V) : Prop where
 len : cs.length = 11
 one : cs.all V.one = true
 data : cs.all V.data = true
 take : cs.take 11 = cs
 drop : cs.drop 11 = []
 res : ∀ st, cs.map (res st) = cs
 norm : cs.map norm0 = cs
 on : ∀ p, cs.all (V.on p) = true
theorem zkQ (e : Ex.E) : Cells (expC e) := ⟨expC_length e, expC_one e, expC_data e, zhO e, expC_drop e, fun st => expC_res st e, expC_norm e, fun p => expC_on p e⟩
def okS (L : List Lx.TA) (q : Nat) (v : Vm.V) : Prop := ∃ (p' : Nat) (cs : List Vm.V), v = .tup [rdV L p' 20 q, .agg cs] ∧ Cells cs ∧ p' ≤ L.length
def okV (L : List Lx.TA) (r : Ex.R) (v : Vm.V) : Prop := match r with
 | .ok [e] q => v = .tup [rdV L q 0 0, .agg (expC e)] ∧ q ≤ L.length
 | .ok _ _ => False
 | .stop q => okS L q v
theorem okV_mk {L : List Lx.TA} {e : Ex.E} {q : Nat} {v : Vm.V} (h : v = .tup [rdV L q 0 0, .agg (expC e)]) (hq : q ≤ L.length) : okV L (.ok [e] q) v := ⟨h, hq⟩
abbrev LvR (G : Nat → Vm.V) (L : List Lx.TA) (n : Nat) : Prop := ∀ (m k p : Nat) (r : Ex.R), m ≤ n → k ≤ 7 → p ≤ L.length → Ex.run (L.map (·.1)) m (.lev k) p = some r → RetX Tryz.prog G 44 [rdV L p 0 0, .int .i64 (k : Int)] (okV L r)
def okL (L : List Lx.TA) (r : Ex.R) (v : Vm.V) : Prop := match r with
 | .ok l q => ∃ q0 : Nat, q = q0 + 1 ∧ Ex.isT (L.map (·.1)) q0 4 Ex.zbh = true ∧ v = .tup [rdV L q0 0 0, .list (l.map fun e => .agg (expC e))]
 | .stop q => (∃ l : List Ex.E, v = .tup [rdV L q 0 0, .list (l.map fun e => .agg (expC e))] ∧ q ≤ L.length ∧ Ex.isT (L.map (·.1)) q 4 Ex.zbh = false ∧ l.length ≤ 999999) ∨
  ∃ (p' : Nat) (l : List (List Vm.V)), v = .tup [rdV L p' 20 q, .list (l.map .agg)] ∧ p' ≤ L.length ∧ (∀ cs ∈ l, Cells cs) ∧ l.length ≤ 999999
abbrev LstR (G : Nat → Vm.V) (L : List Lx.TA) (n : Nat) : Prop := ∀ (m p : Nat) (r : Ex.R), m ≤ n → p ≤ L.length → Ex.run (L.map (·.1)) m (.list []) p = some r → RetX Tryz.prog G 102 [rdV L p 0 0] (okL L r)
section
variable {G : Nat → Vm.V} {L : List Lx.TA} {n : Nat}
theorem okV_sti {a w : Int} {q : Nat} {cs : List Vm.V} (hc : Cells cs) (h0 : 0 ≤ a) (h1 : a ≤ L.length) (hw : w = q) : okV L (.stop q) (.tup [.agg [.list (L.map tokM), .int .i64 a, .int .i64 20, .int .i64 w], .agg cs]) := by
 subst hw
 refine ⟨a.toNat, cs, ?_, hc, by omega⟩
 rw [Int.toNat_of_nonneg h0]
 rfl
theorem okV_elim {r : Ex.R} {v : Vm.V} (h : okV L r v) : (∃ (e : Ex.E) (q : Nat), r = .ok [e] q ∧ v = .tup [rdV L q 0 0, .agg (expC e)] ∧ q ≤ L.length) ∨ ∃ (q : Nat), r = .stop q ∧ okS L q v := by
 unfold okV at h
 split at h
 ·exact .inl ⟨_, _, rfl, h.1, h.2⟩
 ·exact h.elim
 ·exact .inr ⟨_, rfl, h⟩
theorem LvR.go (h : LvR G L n) {m k p : Nat} {f : Ex.E → Nat → Option Ex.R} {r : Ex.R} (hm : m ≤ n) (hk : k ≤ 7) (hp : p ≤ L.length) (hr : Ex.then1 (Ex.run (L.map (·.1)) m (.lev k) p) f = some r) :
  (∃ (e : Ex.E) (q : Nat), Ret Tryz.prog G 44 [rdV L p 0 0, .int .i64 (k : Int)] (.tup [rdV L q 0 0, .agg (expC e)]) ∧ p < q ∧ q ≤ L.length ∧ f e q = some r) ∨ ∃ q : Nat, RetX Tryz.prog G 44 [rdV L p 0 0, .int .i64 (k : Int)] (okS L q) ∧ r = .stop q := by
 rcases Ex.then1_some hr with ⟨e, q, h1, h2⟩ | ⟨q, h1, rfl⟩
 ·have hq := Ex.za6 (by simpa using hp) h1
  exact .inl ⟨e, q, ((h m k p _ hm hk hp h1).mono fun v hv => hv.1).ret, hq.1, by simpa using hq.2, h2⟩
 ·exact .inr ⟨q, h m k p _ hm hk hp h1, rfl⟩
theorem zjd (p k : Int) (b w : Int) (hb : b ≠ 0) : Ret Tryz.prog G 44 [rdV L p b w, .int .i64 k] (.tup [rdV L p b w, .agg (expC Ex.e0)]) := by
 refine za7 (zcD G) (by simp [L_tomeref25_part]) ?_
 show wpC _ _ 0 (panK 0 _) _ (retK 0 _ _) (mkX [(0, _), (1, _)] [])
 have hrd : ∀ a b w, rdV L a b w = .agg [.list (L.map tokM), .int .i64 a, .int .i64 b, .int .i64 w] := fun _ _ _ => rfl
 simp only [L_tomeref25_part, zs, za, zl, zc, zE]
 repeat' (first
  | refine ww ?_ | (refine ixl ?_; intro a ha) | (refine ixs ?_; intro c hc)
  | (refine cz ?_ ?_ <;> intro hb <;> ((try have hlt := Ex.zl hb); try exact zk hb))
  | refine zah ?_ ?_)
 simp [hrd, expC, Ex.e0, Ex.v0]
theorem zou (op : List UInt8) (a : Ex.E) (cs : List Vm.V) (hc : Cells cs) :
  Ret Tryz.prog G 84 [.str op, .agg (expC a), .agg cs] (.agg [.int .i64 4, .str op, .int .i64 0, .int .i64 0, .str [], .str [], .str [], .int .i64 0, .bool false, .bool false, .list [.agg (expC a), .agg cs]]) := by
 refine za7 (zed G) (by simp [L_tomeref25_two]) ?_
 show wpC _ _ 0 (panK 0 _) _ (retK 0 _ _) (mkX [(0, _), (1, _), (2, _)] [])
 obtain ⟨z1, z2, z3, z4, z5, z6, z7, z8⟩ := hc
 have x0 := zx
 simp only [L_tomeref25_two, zs, za, zl, zc, zE]
 repeat' (first
  | refine ww ?_ | (refine ixl ?_; intro a ha) | (refine ixs ?_; intro c hc)
  | (refine cz ?_ ?_ <;> intro hb <;> ((try have hlt := Ex.zl hb); try exact zk hb))
  | refine zah ?_ ?_)
 rfl
set_option maxHeartbeats 4000000 in
theorem zm7 (hL : L.length ≤ 999999) (h : LvR G L n) (m p : Nat) (r : Ex.R) (hm : m ≤ n + 1) (hp : p ≤ L.length) (hr : Ex.run (L.map (·.1)) m (.lev 2) p = some r) : RetX Tryz.prog G 78 [rdV L p 0 0] (okV L r) := by
 cases m with
 | zero => cases hr
 | succ m =>
 rw [Ex.run] at hr
 refine zde (zew G) (by simp [L_tomeref25_negation]) ?_
 show wpC _ _ 0 (panK 0 _) _ (retK 0 _ _) (mkX [(0, _)] [])
 have hrd : ∀ a b w, rdV L a b w = .agg [.list (L.map tokM), .int .i64 a, .int .i64 b, .int .i64 w] := fun _ _ _ => rfl
 have x0 := zx; have hpr : ∀ q f, (prsE L q).on f = true := fun _ _ => rfl
 simp only [L_tomeref25_negation, zs, za, zl, zc, zE]
 simp only [Ex.wNot] at hr
 repeat' (first
  | refine ww ?_ | (refine ixl ?_; intro a ha) | (refine ixs ?_; intro c hc)
  | (refine cr (q_word _ _ _ hL ?_ ?_) ?_; exact dq; exact dq)
  | (refine cr (q_mark _ _ _ hL ?_ ?_) ?_; exact dq; exact dq)
  | (refine cr (q_kind _ _ _ hL ?_ ?_) ?_; exact dq; exact dq)
  | (refine cr (q_at _ _ _ 1 _ hL ?_ ?_ ?_) ?_; exact dq; exact dq; exact dq)
  | (refine cr (q_next _ _ _ ?_ ?_) ?_; exact dq; exact dq)
  | (refine cr (q_fail _ _ ?_ ?_) ?_; exact dq; exact dq)
  | (refine cr (b_word _ _ _ _ hL ?_ ?_ ?_) ?_; exact dq; exact dq; exact dq)
  | (refine cr (zpI _ _ _ _ hL ?_ ?_ ?_) ?_; exact dq; exact dq; exact dq)
  | (refine cr (b_at _ _ _ _ 1 _ hL ?_ ?_ ?_ ?_) ?_; exact dq; exact dq; exact dq; exact dq)
  | (refine cr (b_need _ _ _ _ _ hL ?_ ?_ ?_) ?_; exact dq; exact dq; exact dq)
  | (refine cr (b_fail _ _ _ ?_ ?_) ?_; exact dq; exact dq)
  | (refine cr (zjd _ _ _ _ ?_) ?_; exact dq)
  | (refine cr (r_two _ _ _) ?_)
  | (refine cr (zou _ _ _ ⟨z1, z2, z3, z4, z5, z6, z7, z8⟩) ?_)
  | (refine cr (hc) ?_)
  | (refine cx (hc) ?_; rintro _ ⟨p', cs, rfl, ⟨z1, z2, z3, z4, z5, z6, z7, z8⟩, hp'⟩ <;> ((try simp only [Int.toNat_natCast, Int.toNat_natCast_add_one] at ho); (try simp only [Int.toNat_natCast, Int.toNat_natCast_add_one] at hlt)))
  | (refine cr (zbI _ _ _ _ hL ht) ?_)
  | (refine cr (za2 _ _ _ _ hL ?_ ht) ?_; exact dq)
  | (refine cz ?_ ?_ <;> intro hb <;> ((try have hlt := Ex.zl hb); try exact zk hb))
  | refine zah ?_ ?_
  | (simp only [*, ↓reduceIte, Bool.false_eq_true, Bool.and_true, Bool.true_and, Bool.false_and, Bool.and_false, Bool.or_false, Bool.false_or, Bool.or_true, Bool.true_or] at hr)
  | ((split at hr) <;> first | (rename_i op ho; have hop := za8 (by decide) ho; have hlt := (Ex.zaB ho).1; simp only [List.length_map] at hlt) | (rename_i ho; skip))
  | (have hr0 := h.go (by omega) (by omega) (by omega) hr; clear hr; rcases hr0 with ⟨e, q, hc, hq1, hq2, hr⟩ | ⟨q, hc, rfl⟩)
  | (have hr0 := Ex.need_some hr; clear hr; rcases hr0 with ⟨ht, hr⟩ | ⟨ht, rfl⟩; (try have hlt := Ex.isT_lt ht); (try simp only [List.length_map] at hlt))
  | (refine cx (h _ _ _ _ (by omega) (by omega) (by omega) hr) ?_; intro v hv; rcases okV_elim hv with ⟨e, q, rfl, rfl, hq2⟩ | ⟨q, rfl, p', cs, rfl, ⟨z1, z2, z3, z4, z5, z6, z7, z8⟩, hp'⟩))
 all_goals (try exact zf)
theorem za8 {L : List Lx.T} {p : Nat} {k : Int} {l : List (List UInt8)} {s : List UInt8} (hl : (l.all fun s => !s.isEmpty) = true) (h : Ex.oneOf L p k l = some s) : s ≠ [] := fun e => by
 have := List.all_eq_true.1 hl s (Ex.zaB h).2.2
 subst e
 cases this
theorem x_which (a w k : Int) (l : List (List UInt8)) (hL : L.length ≤ 999999) (hl : l.length ≤ 9) (hn : (l.all fun s => !s.isEmpty) = true) (h0 : 0 ≤ a) (h1 : a ≤ L.length) :
  RetX Tryz.prog G 82 [rdV L a 0 w, .list (l.map Vm.V.str), .int .i64 k] (fun v => (∃ op, Ex.oneOf (L.map (·.1)) a.toNat k l = some op ∧ (op = []) = False ∧ a.toNat < L.length ∧ v = .str op) ∨ (Ex.oneOf (L.map (·.1)) a.toNat k l = none ∧ v = .str [])) :=
 (zli a w k l hL hl h0 h1).x.mono fun v hv => by
  subst hv
  cases ho : Ex.oneOf (L.map (·.1)) a.toNat k l with
  | none => exact .inr ⟨rfl, rfl⟩
  | some op => exact .inl ⟨op, rfl, eq_false (za8 hn ho), by simpa using (Ex.zaB ho).1, rfl⟩
theorem isT_clash {L : List Lx.T} {p : Nat} {k k' : Int} {s t : List UInt8} (h : Ex.isT L p k s = true) (h' : Ex.isT L p k' t = true) (hn : (decide (k = k') && (s == t)) = false) : False := by
 unfold Ex.isT at h h'
 split at h
 ·rename_i u hu
  rw [hu] at h'
  simp only [Bool.and_eq_true, decide_eq_true_eq, beq_iff_eq] at h h'
  rw [← h.1, ← h'.1, ← h.2, ← h'.2] at hn
  simp at hn
 ·cases h
theorem ze6 (L : List Lx.T) : ∀ (n p q : Nat) (acc l : List Ex.E), Ex.run L n (.list acc) p = some (.ok l q) → ∃ q0, q = q0 + 1 ∧ Ex.isT L q0 4 Ex.zbh = true
 | 0, _, _, _, _, h => by cases h
 | n + 1, p, q, acc, l, h => by
  rw [Ex.run] at h
  rcases Ex.then1_some h with ⟨e, q1, h1, h2⟩ | ⟨q1, h1, h2⟩
  ·split at h2
   ·exact ze6 L n _ _ _ _ h2
   ·rcases Ex.need_some h2 with ⟨h3, h4⟩ | ⟨h3, h4⟩
    ·cases h4
     exact ⟨q1, rfl, h3⟩
    ·cases h4
  ·cases h2
theorem LstR.go {G : Nat → Vm.V} {L : List Lx.TA} {n : Nat} (h : LstR G L n) (hL : L.length ≤ 999999) {m p : Nat} {f : List Ex.E → Nat → Option Ex.R} {r : Ex.R} (hm : m ≤ n) (hp : p ≤ L.length) (hr : Ex.zhY (Ex.run (L.map (·.1)) m (.list []) p) f = some r) :
  (∃ (l : List Ex.E) (q : Nat), Ret Tryz.prog G 102 [rdV L p 0 0] (.tup [rdV L q 0 0, .list (l.map fun e => .agg (expC e))]) ∧ l.length ≤ 999999 ∧ q < L.length ∧ Ex.isT (L.map (·.1)) q 4 Ex.zbh = true ∧ f l (q + 1) = some r) ∨
  ∃ q : Nat, RetX Tryz.prog G 102 [rdV L p 0 0] (fun v => (∃ l : List Ex.E, v = .tup [rdV L q 0 0, .list (l.map fun e => .agg (expC e))] ∧ q ≤ L.length ∧ Ex.isT (L.map (·.1)) q 4 Ex.zbh = false ∧ l.length ≤ 999999) ∨
   ∃ (p' : Nat) (xs : List Vm.V), v = .tup [rdV L p' 20 q, .list xs] ∧ p' ≤ L.length ∧ (∀ y ∈ xs, y.size = 11) ∧ xs.length ≤ 999999) ∧ r = .stop q := by
 rcases Ex.thenL_some hr with ⟨l, q, h1, h2⟩ | ⟨q, h1, rfl⟩
 ·have hc := h m p _ hm hp h1
  have hll : l.length ≤ 999999 := by
   have h3 := Ex.zdZ _ _ _ _ _ _ (by simpa using hp) h1
   have h4 := (Ex.zhn (by simpa using hp) h1).2
   simp at h3 h4
   omega
  obtain ⟨q0, rfl, ht⟩ := ze6 _ _ _ _ _ _ h1
  refine .inl ⟨l, q0, (hc.mono fun v hv => ?_).ret, hll, by simpa using Ex.isT_lt ht, ht, h2⟩
  obtain ⟨q1, hq1, _, hv⟩ := hv
  obtain rfl : q0 = q1 := by omega
  exact hv
 ·refine .inr ⟨q, (h m p _ hm hp h1).mono fun v hv => ?_, rfl⟩
  rcases hv with hv | ⟨p', l, hv, h3, h4, h5⟩
  ·exact .inl hv
  ·exact .inr ⟨p', l.map .agg, hv, h3, fun y hy => by
    obtain ⟨cs, hcs, rfl⟩ := List.mem_map.1 hy
    exact (h4 cs hcs).len, by simpa using h5⟩
end
theorem rdc {L : List Lx.TA} {A B : Prop} (hL : L.length ≤ 999999) (hB : B) (hA : Keep B → A := by
 intro h
 first
 | (refine cr (q_word _ _ _ hL ?_ ?_) h.out; exact dq; exact dq)
 | (refine cr (q_mark _ _ _ hL ?_ ?_) h.out; exact dq; exact dq)
 | (refine cr (q_kind _ _ _ hL ?_ ?_) h.out; exact dq; exact dq)
 | (refine cr (q_at _ _ _ 1 _ hL ?_ ?_ ?_) h.out; exact dq; exact dq; exact dq)
 | (refine cr (q_next _ _ _ ?_ ?_) h.out; exact dq; exact dq)
 | (refine cr (q_fail _ _ ?_ ?_) h.out; exact dq; exact dq)
 | (refine cr (b_word _ _ _ _ hL ?_ ?_ ?_) h.out; exact dq; exact dq; exact dq)
 | (refine cr (zpI _ _ _ _ hL ?_ ?_ ?_) h.out; exact dq; exact dq; exact dq)
 | (refine cr (b_at _ _ _ _ 1 _ hL ?_ ?_ ?_ ?_) h.out; exact dq; exact dq; exact dq; exact dq)
 | (refine cr (b_need _ _ _ _ _ hL ?_ ?_ ?_) h.out; exact dq; exact dq; exact dq)
 | (refine cr (b_fail _ _ _ ?_ ?_) h.out; exact dq; exact dq)
 | (refine cr (zjd _ _ _ _ ?_) h.out; exact dq)
 | (refine cr (r_two _ _ _) h.out)
 | (refine cr (zou _ _ _ ⟨z1, z2, z3, z4, z5, z6, z7, z8⟩) h.out)) : A := hA ⟨hB⟩
theorem zk {A P : Prop} (h : P) (g : P → A := by intro h; exact (isT_clash h (by assumption) (by decide)).elim) : A := g h
end Go.Proofs.YtakegkongmnekaaGreatDoor
namespace Go.Proofs.YtakegkongmnekaaGreatDoor
open Go.RowKit
open Vm
attribute [local irreducible] wpR wpC
section
variable {G : Nat → Vm.V} {L : List Lx.TA} {n : Nat}
structure LS where
 a : Int
 b : Int
 w : Int
 xs : List Vm.V
def lsC (L : List Lx.TA) (m p : Nat) (acc : List Ex.E) (r : Ex.R) : Prop :=
 (Ex.isT (L.map (·.1)) p 4 [44] = true ∧ ∃ m1, m = m1 + 1 ∧ Ex.then1 (Ex.run (L.map (·.1)) m1 (.lev 0) (p + 1)) (fun e q => if Ex.isT (L.map (·.1)) q 4 [44] = true then Ex.run (L.map (·.1)) m1 (.list (acc ++ [e])) (q + 1) else Ex.need (L.map (·.1)) 4 [41] q fun r => some (.ok (acc ++ [e]) r)) = some r) ∨
 (Ex.isT (L.map (·.1)) p 4 [44] = false ∧ Ex.need (L.map (·.1)) 4 [41] p (fun r => some (.ok acc r)) = some r)
theorem lsC_of {L : List Lx.TA} {m p : Nat} {acc : List Ex.E} {r : Ex.R} (h : (if Ex.isT (L.map (·.1)) p 4 [44] = true then Ex.run (L.map (·.1)) m (.list acc) (p + 1) else Ex.need (L.map (·.1)) 4 [41] p fun r => some (.ok acc r)) = some r) : lsC L m p acc r := by
 cases hc : Ex.isT (L.map (·.1)) p 4 [44]
 ·rw [if_neg (by simp [hc])] at h
  exact .inr ⟨hc, h⟩
 ·rw [if_pos hc] at h
  cases m with
  | zero => cases h
  | succ m => rw [Ex.run] at h; exact .inl ⟨hc, m, rfl, h⟩
def lsJ (L : List Lx.TA) (n : Nat) (r : Ex.R) (s : LS) : Prop :=
 (∃ (m p : Nat) (acc : List Ex.E), s = ⟨p, 0, 0, acc.map fun e => .agg (expC e)⟩ ∧ m ≤ n ∧ p ≤ L.length ∧ acc.length ≤ p ∧ lsC L m p acc r) ∨
 ∃ (p q : Nat) (l : List (List Vm.V)), s = ⟨p, 20, q, l.map .agg⟩ ∧ r = .stop q ∧ p ≤ L.length ∧ (∀ cs ∈ l, Cells cs) ∧ l.length ≤ 999999
theorem okL_ok {l : List Ex.E} {q : Nat} (ht : Ex.isT (L.map (·.1)) q 4 [41] = true) : okL L (.ok l (q + 1)) (.tup [.agg [.list (L.map tokM), .int .i64 (q : Int), .int .i64 0, .int .i64 0], .list (l.map fun e => .agg (expC e))]) := ⟨q, rfl, ht, rfl⟩
theorem okL_s1 {l : List Ex.E} {q : Nat} (ht : Ex.isT (L.map (·.1)) q 4 [41] = false) (hq : q ≤ L.length) (hl : l.length ≤ 999999) : okL L (.stop q) (.tup [.agg [.list (L.map tokM), .int .i64 (q : Int), .int .i64 0, .int .i64 0], .list (l.map fun e => .agg (expC e))]) := .inl ⟨l, rfl, hq, ht, hl⟩
theorem okL_s2 {l : List (List Vm.V)} {p q : Nat} (hq : p ≤ L.length) (hc : ∀ cs ∈ l, Cells cs) (hl : l.length ≤ 999999) : okL L (.stop q) (.tup [.agg [.list (L.map tokM), .int .i64 (p : Int), .int .i64 20, .int .i64 (q : Int)], .list (l.map .agg)]) := .inr ⟨p, l, rfl, hq, hc, hl⟩
set_option maxHeartbeats 8000000 in
theorem r_list (hL : L.length ≤ 999999) (h : LvR G L n) (m p : Nat) (r : Ex.R) (hm : m ≤ n + 1) (hp : p ≤ L.length) (hr : Ex.run (L.map (·.1)) m (.list []) p = some r) : RetX Tryz.prog G 102 [rdV L p 0 0] (okL L r) := by
 cases m with
 | zero => cases hr
 | succ m =>
 rw [Ex.run] at hr
 refine zde (zdL G) (by simp [L_tomeref25_list]) ?_
 show wpC _ _ 0 (panK 0 _) _ (retK 0 _ _) (mkX [(0, _)] [])
 have hrd : ∀ a b w, rdV L a b w = .agg [.list (L.map tokM), .int .i64 a, .int .i64 b, .int .i64 w] := fun _ _ _ => rfl
 have x0 := zx; have hpr : ∀ q f, (prsE L q).on f = true := fun _ _ => rfl
 simp only [L_tomeref25_list, zs, za, zl, zc, zE]
 simp only [Ex.wNot, Ex.wIs, Ex.wIn, Ex.zaO, Ex.zbV, Ex.wAnd, Ex.wOr, Ex.zdk, Ex.wCase, Ex.zcI, Ex.zb4, Ex.zda, Ex.zcA, Ex.wEnd, Ex.wAs, Ex.wDistinct, Ex.zbr, Ex.zbv, Ex.zbh, Ex.zcx, Ex.mDot, Ex.zca, Ex.zbb, Ex.zbN, List.nil_append] at hr
 repeat' (first
  | refine ww ?_ | (refine ixl ?_; intro a ha) | (refine ixs ?_; intro c hc)
  | refine rdc hL ?_
  | (refine cr (hc) ?_)
  | (refine cx (hc) ?_; rintro _ ⟨p', cs, rfl, ⟨z1, z2, z3, z4, z5, z6, z7, z8⟩, hp'⟩ <;> ((try simp only [Int.toNat_natCast, Int.toNat_natCast_add_one] at ho); (try simp only [Int.toNat_natCast, Int.toNat_natCast_add_one] at hlt)))
  | (refine cr (zbI _ _ _ _ hL ht) ?_)
  | (refine cr (za2 _ _ _ _ hL ?_ ht) ?_; exact dq)
  | (refine cz ?_ ?_ <;> intro hb <;> ((try have hlt := Ex.zl hb); try exact zk hb))
  | refine zah ?_ ?_
  | (simp only [*, ↓reduceIte, Bool.false_eq_true, Bool.and_true, Bool.true_and, Bool.false_and, Bool.and_false, Bool.or_false, Bool.false_or, Bool.or_true, Bool.true_or] at hr)
  | ((split at hr) <;> first | (rename_i op ho; have hop := za8 (by decide) ho; have hlt := (Ex.zaB ho).1; simp only [List.length_map] at hlt) | (rename_i ho; skip))
  | (have hr0 := h.go (by omega) (by omega) (by omega) hr; clear hr; rcases hr0 with ⟨e, q, hc, hq1, hq2, hr⟩ | ⟨q, hc, rfl⟩)
  | (have hr0 := Ex.need_some hr; clear hr; rcases hr0 with ⟨ht, hr⟩ | ⟨ht, rfl⟩; (try have hlt := Ex.isT_lt ht); (try simp only [List.length_map] at hlt))
  | (refine cx (h _ _ _ _ (by omega) (by omega) (by omega) hr) ?_; intro v hv; rcases okV_elim hv with ⟨e, q, rfl, rfl, hq2⟩ | ⟨q, rfl, p', cs, rfl, ⟨z1, z2, z3, z4, z5, z6, z7, z8⟩, hp'⟩))
 ·refine lp [2, 4, 6] [11, 18, 23] (fun s : LS => [(2, .ptr 11 0), (4, .ptr 18 0), (6, .row 23 s.xs.length)]) (fun s => [(11, .blk 68 [.nils, .int .i64 0, .int .i64 0, .int .i64 0]), (18, .blk 68 (rdC L s.a s.b s.w)), (23, .row 27 11 s.xs)])
     (lsJ L n r) (fun s => if s.b = 0 then 1 + (L.length - s.a.toNat) else 0) ⟨q, 0, 0, [.agg (expC e)]⟩ (.inl ⟨m, q, [e], rfl, by omega, hq2, by simp; omega, lsC_of hr⟩) ?_ lo (by simp only [rdC]; exact le)
  try clear hc
  try clear hr
  rintro s (⟨m', p', acc, rfl, hm', hp', hacc, hJ⟩ | ⟨p', q', l, rfl, hrq, hp', hl, hll⟩)
  ·rcases hJ with ⟨hcm, m1, rfl, hr⟩ | ⟨hcm, hr⟩
   ·have hlt := Ex.isT_lt hcm
    simp only [List.length_map] at hlt
    simp only [rdC]
    have hal : acc.length ≤ 999999 := by omega
    repeat' (first
     | refine ww ?_ | (refine ixl ?_; intro a ha) | (refine ixs ?_; intro c hc)
     | refine rdc hL ?_
     | (refine cr (hc) ?_)
     | (refine cx (hc) ?_; rintro _ ⟨p', cs, rfl, ⟨z1, z2, z3, z4, z5, z6, z7, z8⟩, hp'⟩ <;> ((try simp only [Int.toNat_natCast, Int.toNat_natCast_add_one] at ho); (try simp only [Int.toNat_natCast, Int.toNat_natCast_add_one] at hlt)))
     | (refine cz ?_ ?_ <;> intro hb <;> ((try have hlt := Ex.zl hb); try exact zk hb))
     | refine zah ?_ ?_
     | (have hr0 := h.go (by omega) (by omega) (by omega) hr; clear hr; rcases hr0 with ⟨e, q, hc, hq1, hq2, hJ⟩ | ⟨q, hc, rfl⟩))
    ·refine ⟨⟨q, 0, 0, (acc ++ [e]).map fun e => .agg (expC e)⟩, .inl ⟨m1, q, acc ++ [e], rfl, by omega, hq2, by simp; omega, lsC_of hJ⟩, by simp; omega, lo, by simp only [rdC]; exact le⟩
    ·refine ⟨⟨p', 20, q, (acc.map expC ++ [cs]).map .agg⟩, .inr ⟨p', q, acc.map expC ++ [cs], rfl, rfl, hp', ?_, by simp; omega⟩, (by simp <;> omega), lo, by simp only [rdC, List.map_append, List.map_map, Function.comp_def]; exact le⟩
     intro c hc
     rcases List.mem_append.1 hc with hc | hc
     ·obtain ⟨e, _, rfl⟩ := List.mem_map.1 hc
      exact zkQ e
     ·simp only [List.mem_cons, List.not_mem_nil, or_false] at hc
      subst hc
      exact ⟨z1, z2, z3, z4, z5, z6, z7, z8⟩
   ·simp only [rdC]
    have hx : ((acc.map fun e => Vm.V.agg (expC e)).take acc.length) = acc.map fun e => .agg (expC e) := List.take_of_length_le (by simp)
    have hr0 := Ex.need_some hr
    clear hr
    rcases hr0 with ⟨ht, hr⟩ | ⟨ht, hrq⟩
    ·cases hr
     repeat' (first
      | refine ww ?_ | (refine ixl ?_; intro a ha) | (refine ixs ?_; intro c hc)
      | refine rdc hL ?_
      | (refine cr (hc) ?_)
      | (refine cx (hc) ?_; rintro _ ⟨p', cs, rfl, ⟨z1, z2, z3, z4, z5, z6, z7, z8⟩, hp'⟩ <;> ((try simp only [Int.toNat_natCast, Int.toNat_natCast_add_one] at ho); (try simp only [Int.toNat_natCast, Int.toNat_natCast_add_one] at hlt)))
      | (refine cr (zbI _ _ _ _ hL ht) ?_)
      | (refine cr (za2 _ _ _ _ hL ?_ ht) ?_; exact dq)
      | (refine cz ?_ ?_ <;> intro hb <;> ((try have hlt := Ex.zl hb); try exact zk hb))
      | refine zah ?_ ?_
      | (simp only [*, ↓reduceIte, Bool.false_eq_true, Bool.and_true, Bool.true_and, Bool.false_and, Bool.and_false, Bool.or_false, Bool.false_or, Bool.or_true, Bool.true_or] at hr)
      | ((split at hr) <;> first | (rename_i op ho; have hop := za8 (by decide) ho; have hlt := (Ex.zaB ho).1; simp only [List.length_map] at hlt) | (rename_i ho; skip))
      | (have hr0 := h.go (by omega) (by omega) (by omega) hr; clear hr; rcases hr0 with ⟨e, q, hc, hq1, hq2, hr⟩ | ⟨q, hc, rfl⟩)
      | (have hr0 := Ex.need_some hr; clear hr; rcases hr0 with ⟨ht, hr⟩ | ⟨ht, rfl⟩; (try have hlt := Ex.isT_lt ht); (try simp only [List.length_map] at hlt))
      | (refine cx (h _ _ _ _ (by omega) (by omega) (by omega) hr) ?_; intro v hv; rcases okV_elim hv with ⟨e, q, rfl, rfl, hq2⟩ | ⟨q, rfl, p', cs, rfl, ⟨z1, z2, z3, z4, z5, z6, z7, z8⟩, hp'⟩))
     exact okL_ok ht
    ·try subst hrq
     try cases hrq
     repeat' (first
      | refine ww ?_ | (refine ixl ?_; intro a ha) | (refine ixs ?_; intro c hc)
      | refine rdc hL ?_
      | (refine cr (hc) ?_)
      | (refine cx (hc) ?_; rintro _ ⟨p', cs, rfl, ⟨z1, z2, z3, z4, z5, z6, z7, z8⟩, hp'⟩ <;> ((try simp only [Int.toNat_natCast, Int.toNat_natCast_add_one] at ho); (try simp only [Int.toNat_natCast, Int.toNat_natCast_add_one] at hlt)))
      | (refine cr (zbI _ _ _ _ hL ht) ?_)
      | (refine cr (za2 _ _ _ _ hL ?_ ht) ?_; exact dq)
      | (refine cz ?_ ?_ <;> intro hb <;> ((try have hlt := Ex.zl hb); try exact zk hb))
      | refine zah ?_ ?_
      | (simp only [*, ↓reduceIte, Bool.false_eq_true, Bool.and_true, Bool.true_and, Bool.false_and, Bool.and_false, Bool.or_false, Bool.false_or, Bool.or_true, Bool.true_or] at hr)
      | ((split at hr) <;> first | (rename_i op ho; have hop := za8 (by decide) ho; have hlt := (Ex.zaB ho).1; simp only [List.length_map] at hlt) | (rename_i ho; skip))
      | (have hr0 := h.go (by omega) (by omega) (by omega) hr; clear hr; rcases hr0 with ⟨e, q, hc, hq1, hq2, hr⟩ | ⟨q, hc, rfl⟩)
      | (have hr0 := Ex.need_some hr; clear hr; rcases hr0 with ⟨ht, hr⟩ | ⟨ht, rfl⟩; (try have hlt := Ex.isT_lt ht); (try simp only [List.length_map] at hlt))
      | (refine cx (h _ _ _ _ (by omega) (by omega) (by omega) hr) ?_; intro v hv; rcases okV_elim hv with ⟨e, q, rfl, rfl, hq2⟩ | ⟨q, rfl, p', cs, rfl, ⟨z1, z2, z3, z4, z5, z6, z7, z8⟩, hp'⟩))
     exact okL_s1 ht (by assumption) (by omega)
  ·try subst hrq
   try cases hrq
   simp only [rdC]
   repeat' (first
    | refine ww ?_ | (refine ixl ?_; intro a ha) | (refine ixs ?_; intro c hc)
    | refine rdc hL ?_
    | (refine cr (hc) ?_)
    | (refine cx (hc) ?_; rintro _ ⟨p', cs, rfl, ⟨z1, z2, z3, z4, z5, z6, z7, z8⟩, hp'⟩ <;> ((try simp only [Int.toNat_natCast, Int.toNat_natCast_add_one] at ho); (try simp only [Int.toNat_natCast, Int.toNat_natCast_add_one] at hlt)))
    | (refine cr (zbI _ _ _ _ hL ht) ?_)
    | (refine cr (za2 _ _ _ _ hL ?_ ht) ?_; exact dq)
    | (refine cz ?_ ?_ <;> intro hb <;> ((try have hlt := Ex.zl hb); try exact zk hb))
    | refine zah ?_ ?_
    | (simp only [*, ↓reduceIte, Bool.false_eq_true, Bool.and_true, Bool.true_and, Bool.false_and, Bool.and_false, Bool.or_false, Bool.false_or, Bool.or_true, Bool.true_or] at hr)
    | ((split at hr) <;> first | (rename_i op ho; have hop := za8 (by decide) ho; have hlt := (Ex.zaB ho).1; simp only [List.length_map] at hlt) | (rename_i ho; skip))
    | (have hr0 := h.go (by omega) (by omega) (by omega) hr; clear hr; rcases hr0 with ⟨e, q, hc, hq1, hq2, hr⟩ | ⟨q, hc, rfl⟩)
    | (have hr0 := Ex.need_some hr; clear hr; rcases hr0 with ⟨ht, hr⟩ | ⟨ht, rfl⟩; (try have hlt := Ex.isT_lt ht); (try simp only [List.length_map] at hlt))
    | (refine cx (h _ _ _ _ (by omega) (by omega) (by omega) hr) ?_; intro v hv; rcases okV_elim hv with ⟨e, q, rfl, rfl, hq2⟩ | ⟨q, rfl, p', cs, rfl, ⟨z1, z2, z3, z4, z5, z6, z7, z8⟩, hp'⟩))
   exact okL_s2 (by assumption) hl hll
 ·refine lp [2, 4, 6] [11, 18, 23] (fun s : LS => [(2, .ptr 11 0), (4, .ptr 18 0), (6, .row 23 s.xs.length)]) (fun s => [(11, .blk 68 [.nils, .int .i64 0, .int .i64 0, .int .i64 0]), (18, .blk 68 (rdC L s.a s.b s.w)), (23, .row 27 11 s.xs)])
     (fun s => ∃ (p q' : Nat) (l : List (List Vm.V)), s = ⟨p, 20, q', l.map .agg⟩ ∧ Ex.R.stop q = .stop q' ∧ p ≤ L.length ∧ (∀ cs ∈ l, Cells cs) ∧ l.length ≤ 999999) (fun s => if s.b = 0 then 1 + (L.length - s.a.toNat) else 0) ⟨p', 20, q, [.agg cs]⟩ (⟨p', q, [cs], rfl, rfl, hp', by simpa using ⟨z1, z2, z3, z4, z5, z6, z7, z8⟩, by simp⟩) ?_ lo (by simp only [rdC]; exact le)
  clear hc
  rintro s ⟨p', q', l, rfl, hrq, hp', hl, hll⟩
  cases hrq
  simp only [rdC]
  repeat' (first
   | refine ww ?_ | (refine ixl ?_; intro a ha) | (refine ixs ?_; intro c hc)
   | refine rdc hL ?_
   | (refine cr (hc) ?_)
   | (refine cx (hc) ?_; rintro _ ⟨p', cs, rfl, ⟨z1, z2, z3, z4, z5, z6, z7, z8⟩, hp'⟩ <;> ((try simp only [Int.toNat_natCast, Int.toNat_natCast_add_one] at ho); (try simp only [Int.toNat_natCast, Int.toNat_natCast_add_one] at hlt)))
   | (refine cr (zbI _ _ _ _ hL ht) ?_)
   | (refine cr (za2 _ _ _ _ hL ?_ ht) ?_; exact dq)
   | (refine cz ?_ ?_ <;> intro hb <;> ((try have hlt := Ex.zl hb); try exact zk hb))
   | refine zah ?_ ?_
   | (simp only [*, ↓reduceIte, Bool.false_eq_true, Bool.and_true, Bool.true_and, Bool.false_and, Bool.and_false, Bool.or_false, Bool.false_or, Bool.or_true, Bool.true_or] at hr)
   | ((split at hr) <;> first | (rename_i op ho; have hop := za8 (by decide) ho; have hlt := (Ex.zaB ho).1; simp only [List.length_map] at hlt) | (rename_i ho; skip))
   | (have hr0 := h.go (by omega) (by omega) (by omega) hr; clear hr; rcases hr0 with ⟨e, q, hc, hq1, hq2, hr⟩ | ⟨q, hc, rfl⟩)
   | (have hr0 := Ex.need_some hr; clear hr; rcases hr0 with ⟨ht, hr⟩ | ⟨ht, rfl⟩; (try have hlt := Ex.isT_lt ht); (try simp only [List.length_map] at hlt))
   | (refine cx (h _ _ _ _ (by omega) (by omega) (by omega) hr) ?_; intro v hv; rcases okV_elim hv with ⟨e, q, rfl, rfl, hq2⟩ | ⟨q, rfl, p', cs, rfl, ⟨z1, z2, z3, z4, z5, z6, z7, z8⟩, hp'⟩))
  exact okL_s2 (by assumption) hl hll
theorem b_list (a b w : Int) (hL : L.length ≤ 999999) (h0 : 0 ≤ a) (h1 : a ≤ 2000000) (hb : b ≠ 0) : Ret Tryz.prog G 102 [rdV L a b w] (.tup [rdV L a b w, .list [.agg (expC Ex.e0)]]) := by
 refine za7 (zdL G) (by simp [L_tomeref25_list]) ?_
 show wpC _ _ 0 (panK 0 _) _ (retK 0 _ _) (mkX [(0, _)] [])
 have hrd : ∀ a b w, rdV L a b w = .agg [.list (L.map tokM), .int .i64 a, .int .i64 b, .int .i64 w] := fun _ _ _ => rfl
 have x0 := zx; have hpr : ∀ q f, (prsE L q).on f = true := fun _ _ => rfl
 simp only [L_tomeref25_list, zs, za, zl, zc, zE]
 repeat' (first
  | refine ww ?_ | (refine ixl ?_; intro a ha) | (refine ixs ?_; intro c hc)
  | (refine cr (zjd _ _ _ _ hb) ?_)
  | (refine cz ?_ ?_ <;> intro hb <;> ((try have hlt := Ex.zl hb); try exact zk hb))
  | refine zah ?_ ?_)
 refine lp [2, 4, 6] [11, 18, 23] (fun _ : Unit => [(2, .ptr 11 0), (4, .ptr 18 0), (6, .row 23 1)]) (fun _ => [(11, .blk 68 [.nils, .int .i64 0, .int .i64 0, .int .i64 0]), (18, .blk 68 (rdC L a b w)), (23, .row 27 11 [.agg (expC Ex.e0)])]) (fun _ => True) (fun _ => 0) () trivial ?_ lo (by simp only [rdC]; exact le)
 rintro _ _
 simp only [rdC]
 repeat' (first
  | refine ww ?_ | (refine ixl ?_; intro a ha) | (refine ixs ?_; intro c hc)
  | (refine cr (zpI _ _ _ _ hL ?_ ?_ hb) ?_; exact dq; exact dq)
  | (refine cz ?_ ?_ <;> intro hb <;> ((try have hlt := Ex.zl hb); try exact zk hb))
  | refine zah ?_ ?_)
 rfl
end
end Go.Proofs.YtakegkongmnekaaGreatDoor
