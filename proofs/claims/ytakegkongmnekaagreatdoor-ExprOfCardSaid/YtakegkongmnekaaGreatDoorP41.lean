/- Part of the proof: see the last text. -/
import Derived.Test.YtakegkongmnekaaGreatDoorP22
import Derived.Test.YtakegkongmnekaaGreatDoorP23
import Derived.Test.YtakegkongmnekaaGreatDoorP25
import Derived.Test.YtakegkongmnekaaGreatDoorP26
import Derived.Test.YtakegkongmnekaaGreatDoorP27
import Derived.Test.YtakegkongmnekaaGreatDoorP28
import Derived.Test.YtakegkongmnekaaGreatDoorP29
import Derived.Test.YtakegkongmnekaaGreatDoorP31
import Derived.Test.YtakegkongmnekaaGreatDoorP32
import Derived.Test.YtakegkongmnekaaGreatDoorP34
import Derived.Test.YtakegkongmnekaaGreatDoorP40
set_option maxRecDepth 20000
set_option linter.unusedVariables false
set_option linter.unusedSimpArgs false
namespace Go.Proofs.YtakegkongmnekaaGreatDoor
open Go.RowKit
open Vm
def L_tomelaw25_live : FC :=
 ⟨73, (.seq (.reg (zs 0 (.move (.c (.bool false))) 10 .done)) (.seq (.reg (zs 14 (zc 7 [(.c (.str [97, 32, 43, 32, 98, 32, 42, 32, 50, 32, 61, 32, 55, 32, 111, 114, 32, 110, 111, 116, 32, 99, 32, 105, 115, 32, 110, 117, 108, 108]))]) 11 (zs 13 (.move (.t 14)) 12 (zs 15 (.ext (.t 13) 0) 13 (zs 16 (.ext (.t 13) 1) 14 (zs 17 (.ext (.t 13) 2) 15 (zs 1 (.alloc 27 zE) 16 (.step ⟨none, .store 11 (.t 1) (.t 15), 17, none, []⟩ (zs 2 (.move (.t 16)) 18 (zs 3 (.move (.t 17)) 19 .done)))))))))) (.seq (.reg (zs 19 (zc 7 [(.c (.str [45, 32, 53]))]) 20 (zs 18 (.move (.t 19)) 21 (zs 20 (.ext (.t 18) 0) 22 (zs 21 (.ext (.t 18) 1) 23 (zs 22 (.ext (.t 18) 2) 24 (zs 4 (.alloc 27 zE) 25 (.step ⟨none, .store 11 (.t 4) (.t 20), 26, none, []⟩ (zs 5 (.move (.t 21)) 27 (zs 6 (.move (.t 22)) 28 .done)))))))))) (.seq (.reg (zs 24 (zc 7 [(.c (.str [97, 32, 98]))]) 29 (zs 23 (.move (.t 24)) 30 (zs 25 (.ext (.t 23) 0) 31 (zs 26 (.ext (.t 23) 1) 32 (zs 27 (.ext (.t 23) 2) 33 (zs 7 (.alloc 27 zE) 34 (.step ⟨none, .store 11 (.t 7) (.t 25), 35, none, []⟩ (zs 8 (.move (.t 26)) 36 (zs 9 (.move (.t 27)) 37 .done)))))))))) (.seq (.reg (zs 29 (zc 7 [(.c (.str [97, 32, 43]))]) 38 (zs 28 (.move (.t 29)) 39 (zs 30 (.ext (.t 28) 0) 40 (zs 31 (.ext (.t 28) 1) 41 (zs 32 (.ext (.t 28) 2) 42 (zs 10 (.alloc 27 zE) 43 (.step ⟨none, .store 11 (.t 10) (.t 30), 44, none, []⟩ (zs 11 (.move (.t 31)) 45 (zs 12 (.move (.t 32)) 46 .done)))))))))) (.seq (.seq (.reg (zs 33 (.move (.t 3)) 47 (zs 34 (za .neq (.t 33) (.c (.int .i64 0))) 48 (zs 35 (.move (.t 34)) 49 (.step ⟨(some 36), .move (.t 2), 50, (some (35, false)), []⟩ (.step ⟨(some 37), za .neq (.t 36) (.c (.int .i64 30)), 51, (some (35, false)), []⟩ (zs 38 (.pick (.t 35) (.c (.bool true)) (.t 37)) 52 (zs 39 (.move (.t 38)) 53 (.step ⟨(some 40), .load true 11 (.t 1), 54, (some (39, false)), []⟩ (.step ⟨(some 41), zc 12 [(.t 40)], 55, (some (39, false)), []⟩ (.step ⟨(some 42), za .neq (.t 41) (.c (.str [40, 40, 97, 32, 43, 32, 40, 98, 32, 42, 32, 50, 41, 41, 32, 61, 32, 55, 41, 32, 111, 114, 32, 40, 110, 111, 116, 32, 40, 99, 32, 105, 115, 32, 110, 117, 108, 108, 41, 41])), 56, (some (39, false)), []⟩ (zs 43 (.pick (.t 39) (.c (.bool true)) (.t 42)) 57 .done)))))))))))) (.cond (.t 43) (.seq (.reg (zs 0 (.move (.c (.bool false))) 58 .done)) .ret) .skip)) (.seq (.reg (zs 44 (.move (.t 6)) 59 (zs 45 (za .eql (.t 44) (.c (.int .i64 0))) 60 (zs 46 (.move (.t 45)) 61 (.step ⟨(some 47), .faddr 0 (.t 4), 62, (some (46, true)), []⟩ (.step ⟨(some 48), zl (.t 47), 63, (some (46, true)), []⟩ (.step ⟨(some 49), za .eql (.t 48) (.c (.int .i64 1)), 64, (some (46, true)), []⟩ (zs 50 (.pick (.t 46) (.t 49) (.c (.bool false))) 65 (zs 51 (.move (.t 50)) 66 (.step ⟨(some 52), .faddr 2 (.t 4), 67, (some (51, true)), []⟩ (.step ⟨(some 53), .faddr 1 (.t 52), 68, (some (51, true)), []⟩ (.step ⟨(some 54), zl (.t 53), 69, (some (51, true)), []⟩ (.step ⟨(some 55), za .eql (.t 54) (.c (.int .i64 (-5))), 70, (some (51, true)), []⟩ (zs 56 (.pick (.t 51) (.t 55) (.c (.bool false))) 71 (zs 57 (.move (.t 56)) 72 (.step ⟨(some 58), .move (.t 8), 73, (some (57, true)), []⟩ (.step ⟨(some 59), za .eql (.t 58) (.c (.int .i64 2)), 74, (some (57, true)), []⟩ (zs 60 (.pick (.t 57) (.t 59) (.c (.bool false))) 75 (zs 61 (.move (.t 60)) 76 (.step ⟨(some 62), .move (.t 9), 77, (some (61, true)), []⟩ (.step ⟨(some 63), za .eql (.t 62) (.c (.int .i64 20)), 78, (some (61, true)), []⟩ (zs 64 (.pick (.t 61) (.t 63) (.c (.bool false))) 79 (zs 65 (.move (.t 64)) 80 (.step ⟨(some 66), .move (.t 11), 81, (some (65, true)), []⟩ (.step ⟨(some 67), za .eql (.t 66) (.c (.int .i64 3)), 82, (some (65, true)), []⟩ (zs 68 (.pick (.t 65) (.t 67) (.c (.bool false))) 83 (zs 69 (.move (.t 68)) 84 (.step ⟨(some 70), .move (.t 12), 85, (some (69, true)), []⟩ (.step ⟨(some 71), za .eql (.t 70) (.c (.int .i64 20)), 86, (some (69, true)), []⟩ (zs 72 (.pick (.t 69) (.t 71) (.c (.bool false))) 87 (zs 0 (.move (.t 72)) 88 .done))))))))))))))))))))))))))))))) .ret))))))), [.tmp 0]⟩
theorem zgC (G : Nat → V) : zaX Tryz.prog G 10 6 = some L_tomelaw25_live := by kernel_rfl
def L_tomelaw25_ExprOf : FC :=
 ⟨41, (.seq (.reg (zs 2 (.move (.c (.bool false))) 10 .done)) (.seq (.seq (.reg (zs 9 (.move (.t 0)) 11 (zs 10 (.lens (.t 9)) 12 (zs 11 (za .gtr (.t 10) (.c (.int .i64 2048))) 13 .done)))) (.cond (.t 11) (.seq (.reg (zs 12 (zc 6 []) 14 (zs 2 (.move (.t 12)) 15 .done))) .ret) .skip)) (.seq (.reg (zs 14 (.move (.t 0)) 16 (zs 15 (zc 7 [(.t 14)]) 17 (zs 13 (.move (.t 15)) 18 (zs 16 (.ext (.t 13) 0) 19 (zs 17 (.ext (.t 13) 1) 20 (zs 18 (.ext (.t 13) 2) 21 (zs 3 (.alloc 27 zE) 22 (.step ⟨none, .store 11 (.t 3) (.t 16), 23, none, []⟩ (zs 4 (.move (.t 17)) 24 (zs 5 (.move (.t 18)) 25 .done))))))))))) (.seq (.reg (zs 20 (.move (.t 0)) 26 (zs 21 (zc 8 [(.t 20)]) 27 (zs 19 (.move (.t 21)) 28 (zs 22 (.ext (.t 19) 0) 29 (zs 23 (.ext (.t 19) 1) 30 (zs 24 (.ext (.t 19) 2) 31 (zs 6 (.alloc 27 zE) 32 (.step ⟨none, .store 11 (.t 6) (.t 22), 33, none, []⟩ (zs 7 (.move (.t 23)) 34 (zs 8 (.move (.t 24)) 35 .done))))))))))) (.seq (.reg (zs 25 (zc 6 []) 36 (zs 26 (.move (.t 25)) 37 (.step ⟨(some 27), .load true 11 (.t 3), 38, (some (26, true)), []⟩ (.step ⟨(some 28), .load true 11 (.t 6), 39, (some (26, true)), []⟩ (.step ⟨(some 29), zc 9 [(.t 27), (.t 28)], 40, (some (26, true)), []⟩ (zs 30 (.pick (.t 26) (.t 29) (.c (.bool false))) 41 (zs 31 (.move (.t 30)) 42 (.step ⟨(some 32), .move (.t 4), 43, (some (31, true)), []⟩ (.step ⟨(some 33), .move (.t 7), 44, (some (31, true)), []⟩ (.step ⟨(some 34), za .eql (.t 32) (.t 33), 45, (some (31, true)), []⟩ (zs 35 (.pick (.t 31) (.t 34) (.c (.bool false))) 46 (zs 36 (.move (.t 35)) 47 (.step ⟨(some 37), .move (.t 5), 48, (some (36, true)), []⟩ (.step ⟨(some 38), .move (.t 8), 49, (some (36, true)), []⟩ (.step ⟨(some 39), za .eql (.t 37) (.t 38), 50, (some (36, true)), []⟩ (zs 40 (.pick (.t 36) (.t 39) (.c (.bool false))) 51 (zs 2 (.move (.t 40)) 52 .done)))))))))))))))))) .ret))))), [.tmp 2]⟩
theorem zfr (G : Nat → V) : zaX Tryz.prog G 10 3 = some L_tomelaw25_ExprOf := by kernel_rfl
end Go.Proofs.YtakegkongmnekaaGreatDoor
namespace Go.Proofs.YtakegkongmnekaaGreatDoor
open Go.RowKit
open Vm
def L_expr_Deep : FC :=
 ⟨20, (.seq (.reg (zs 1 (.box 27 (.t 0)) 10 (zs 2 (.move (.c (.int .i64 0))) 11 .done))) (.seq (.reg (zs 3 (.move (.c (.int .i64 0))) 12 .done)) (.seq (.seq (.reg (zs 6 (.faddr 10 (.t 1)) 13 (zs 7 (zl (.t 6)) 14 (zs 8 (.lenl (.t 7)) 15 (zs 9 (.move (.c (.int .i64 0))) 16 .done))))) (.block 0 (.loop (.seq (.reg (zs 10 (za .lss (.t 9) (.t 8)) 17 .done)) (.seq (.cond (.t 10) .skip (.exit 0)) (.seq (.block 1 (.seq (.reg (zs 11 (.iaddr 11 (.t 7) (.t 9)) 18 (zs 12 (.load true 11 (.t 11)) 19 (zs 5 (.alloc 27 zE) 20 (.step ⟨none, .store 11 (.t 5) (.t 12), 21, none, []⟩ .done))))) (.reg (zs 13 (.move (.t 3)) 22 (zs 14 (.load true 11 (.t 5)) 23 (zs 15 (zc 16 [(.t 14)]) 24 (zs 16 (.mm .max (.t 13) (.t 15)) 25 (zs 3 (.move (.t 16)) 26 .done)))))))) (.reg (zs 17 (za .add (.t 9) (.c (.int .i64 1))) 27 (zs 9 (.move (.t 17)) 28 .done))))))))) (.seq (.reg (zs 18 (.move (.t 3)) 29 (zs 19 (za .add (.t 18) (.c (.int .i64 1))) 30 (zs 2 (.move (.t 19)) 31 .done)))) .ret)))), [.tmp 2]⟩
theorem zlE (G : Nat → V) : zaX Tryz.prog G 10 16 = some L_expr_Deep := by kernel_rfl
def L_tomeref25_Deep : FC :=
 ⟨22, (.seq (.reg (zs 1 (.box 27 (.t 0)) 10 (zs 2 (.move (.c (.int .i64 0))) 11 .done))) (.seq (.reg (zs 3 (.move (.c (.int .i64 0))) 12 .done)) (.seq (.seq (.reg (zs 4 (.move (.c (.int .i64 0))) 13 .done)) (.block 0 (.loop (.seq (.seq (.reg (zs 5 (.move (.t 4)) 14 (zs 6 (.faddr 10 (.t 1)) 15 (zs 7 (zl (.t 6)) 16 (zs 8 (.lenl (.t 7)) 17 (zs 9 (za .lss (.t 5) (.t 8)) 18 .done)))))) (.cond (.t 9) .skip (.exit 0))) (.seq (.block 1 (.reg (zs 12 (.move (.t 3)) 19 (zs 13 (.faddr 10 (.t 1)) 20 (zs 14 (zl (.t 13)) 21 (zs 15 (.move (.t 4)) 22 (zs 16 (.iaddr 11 (.t 14) (.t 15)) 23 (zs 17 (.load true 11 (.t 16)) 24 (zs 18 (zc 14 [(.t 17)]) 25 (zs 19 (.mm .max (.t 12) (.t 18)) 26 (zs 3 (.move (.t 19)) 27 .done))))))))))) (.reg (zs 10 (.move (.t 4)) 28 (zs 11 (za .add (.t 10) (.c (.int .i64 1))) 29 (zs 4 (.move (.t 11)) 30 .done))))))))) (.seq (.reg (zs 20 (.move (.t 3)) 31 (zs 21 (za .add (.t 20) (.c (.int .i64 1))) 32 (zs 2 (.move (.t 21)) 33 .done)))) .ret)))), [.tmp 2]⟩
theorem zgB (G : Nat → V) : zaX Tryz.prog G 10 14 = some L_tomeref25_Deep := by kernel_rfl
def L_expr_part : FC :=
 ⟨16, (.seq (.reg (zs 2 (.box 27 (.t 0)) 10 (zs 4 (.alloc 27 zE) 11 .done))) (.seq (.seq (.reg (zs 5 (.move (.t 1)) 12 (zs 6 (.faddr 10 (.t 2)) 13 (zs 7 (zl (.t 6)) 14 (zs 8 (.lenl (.t 7)) 15 (zs 9 (za .lss (.t 5) (.t 8)) 16 .done)))))) (.cond (.t 9) (.seq (.reg (zs 10 (.faddr 10 (.t 2)) 17 (zs 11 (zl (.t 10)) 18 (zs 12 (.move (.t 1)) 19 (zs 13 (.iaddr 11 (.t 11) (.t 12)) 20 (zs 14 (.load true 11 (.t 13)) 21 (.step ⟨none, .store 11 (.t 4) (.t 14), 22, none, []⟩ .done))))))) .ret) .skip)) (.seq (.reg (zs 15 (.build zE []) 23 (.step ⟨none, .store 11 (.t 4) (.t 15), 24, none, []⟩ .done))) .ret))), [.cell 4 true 11]⟩
theorem zlC (G : Nat → V) : zaX Tryz.prog G 10 32 = some L_expr_part := by kernel_rfl
def L_expr_not : FC :=
 ⟨13, (.seq (.reg (zs 2 (.box 27 (.t 0)) 10 (zs 4 (.move (.c (.str []))) 11 .done))) (.seq (.seq (.reg (zs 5 (.faddr 8 (.t 2)) 12 (zs 6 (zl (.t 5)) 13 .done))) (.cond (.t 6) (.seq (.reg (zs 7 (.move (.t 1)) 14 (zs 8 (za .add (.c (.str [32, 110, 111, 116, 32])) (.t 7)) 15 (zs 9 (za .add (.t 8) (.c (.str [32]))) 16 (zs 4 (.move (.t 9)) 17 .done))))) .ret) .skip)) (.seq (.reg (zs 10 (.move (.t 1)) 18 (zs 11 (za .add (.c (.str [32])) (.t 10)) 19 (zs 12 (za .add (.t 11) (.c (.str [32]))) 20 (zs 4 (.move (.t 12)) 21 .done))))) .ret))), [.tmp 4]⟩
theorem zny (G : Nat → V) : zaX Tryz.prog G 10 28 = some L_expr_not := by kernel_rfl
def L_expr_inner : FC :=
 ⟨39, (.seq (.reg (zs 2 (.box 27 (.t 0)) 10 (zs 4 (.move (.c (.str []))) 11 .done))) (.seq (.reg (zs 7 (.load true 11 (.t 2)) 12 (zs 8 (.move (.t 1)) 13 (zs 9 (zc 32 [(.t 7), (.t 8)]) 14 (zs 5 (.alloc 27 zE) 15 (.step ⟨none, .store 11 (.t 5) (.t 9), 16, none, []⟩ .done)))))) (.seq (.reg (zs 10 (.load true 11 (.t 5)) 17 (zs 11 (zc 12 [(.t 10)]) 18 (zs 6 (.move (.t 11)) 19 .done)))) (.seq (.seq (.reg (zs 12 (.faddr 0 (.t 5)) 20 (zs 13 (zl (.t 12)) 21 .done))) (.block 0 (.seq (.seq (.reg (zs 15 (za .eql (.t 13) (.c (.int .i64 3))) 22 (zs 14 (.move (.t 15)) 23 .done))) (.cond (.t 14) .skip (.seq (.reg (zs 16 (za .eql (.t 13) (.c (.int .i64 4))) 24 (zs 14 (.move (.t 16)) 25 .done))) (.cond (.t 14) .skip (.seq (.reg (zs 17 (za .eql (.t 13) (.c (.int .i64 5))) 26 (zs 14 (.move (.t 17)) 27 .done))) (.cond (.t 14) .skip (.seq (.reg (zs 18 (za .eql (.t 13) (.c (.int .i64 6))) 28 (zs 14 (.move (.t 18)) 29 .done))) (.cond (.t 14) .skip (.seq (.reg (zs 19 (za .eql (.t 13) (.c (.int .i64 7))) 30 (zs 14 (.move (.t 19)) 31 .done))) (.cond (.t 14) .skip (.reg (zs 20 (za .eql (.t 13) (.c (.int .i64 8))) 32 (zs 14 (.move (.t 20)) 33 .done))))))))))))) (.cond (.t 14) (.seq (.reg (zs 21 (.move (.t 6)) 34 (zs 22 (za .add (.c (.str [40])) (.t 21)) 35 (zs 23 (za .add (.t 22) (.c (.str [41]))) 36 (zs 4 (.move (.t 23)) 37 .done))))) .ret) (.seq (.reg (zs 25 (za .eql (.t 13) (.c (.int .i64 1))) 38 (zs 24 (.move (.t 25)) 39 .done))) (.cond (.t 24) (.seq (.reg (zs 26 (.faddr 0 (.t 2)) 40 (zs 27 (zl (.t 26)) 41 (zs 28 (za .eql (.t 27) (.c (.int .i64 3))) 42 (zs 29 (.move (.t 28)) 43 (.step ⟨(some 30), .faddr 2 (.t 5), 44, (some (29, true)), []⟩ (.step ⟨(some 31), .faddr 0 (.t 30), 45, (some (29, true)), []⟩ (.step ⟨(some 32), zl (.t 31), 46, (some (29, true)), []⟩ (.step ⟨(some 33), za .eql (.t 32) (.c (.int .i64 1)), 47, (some (29, true)), []⟩ (zs 34 (.pick (.t 29) (.t 33) (.c (.bool false))) 48 .done)))))))))) (.cond (.t 34) (.seq (.reg (zs 35 (.move (.t 6)) 49 (zs 36 (za .add (.c (.str [40])) (.t 35)) 50 (zs 37 (za .add (.t 36) (.c (.str [41]))) 51 (zs 4 (.move (.t 37)) 52 .done))))) .ret) .skip)) .skip)))))) (.seq (.reg (zs 38 (.move (.t 6)) 53 (zs 4 (.move (.t 38)) 54 .done))) .ret))))), [.tmp 4]⟩
theorem zkU (G : Nat → V) : zaX Tryz.prog G 10 27 = some L_expr_inner := by kernel_rfl
def L_expr_printCall : FC :=
 ⟨40, (.seq (.reg (zs 1 (.box 27 (.t 0)) 10 (zs 2 (.move (.c (.str []))) 11 .done))) (.seq (.block 0 (.seq (.reg (zs 4 (.faddr 0 (.t 1)) 12 (zs 5 (zl (.t 4)) 13 (zs 6 (za .eql (.t 5) (.c (.int .i64 10))) 14 (zs 3 (.move (.t 6)) 15 .done))))) (.cond (.t 3) (.seq (.reg (zs 7 (.faddr 1 (.t 1)) 16 (zs 8 (zl (.t 7)) 17 (zs 9 (.faddr 10 (.t 1)) 18 (zs 10 (zl (.t 9)) 19 (zs 11 (zc 29 [(.t 10)]) 20 (zs 12 (za .add (.t 8) (.t 11)) 21 (zs 2 (.move (.t 12)) 22 .done)))))))) .ret) (.seq (.reg (zs 14 (.faddr 10 (.t 1)) 23 (zs 15 (zl (.t 14)) 24 (zs 16 (.lenl (.t 15)) 25 (zs 17 (za .eql (.t 16) (.c (.int .i64 0))) 26 (zs 13 (.move (.t 17)) 27 .done)))))) (.cond (.t 13) (.seq (.reg (zs 18 (.faddr 1 (.t 1)) 28 (zs 19 (zl (.t 18)) 29 (zs 20 (za .add (.t 19) (.c (.str [40, 42, 41]))) 30 (zs 2 (.move (.t 20)) 31 .done))))) .ret) (.seq (.reg (zs 22 (.faddr 9 (.t 1)) 32 (zs 23 (zl (.t 22)) 33 (zs 21 (.move (.t 23)) 34 .done)))) (.cond (.t 21) (.seq (.reg (zs 24 (.faddr 1 (.t 1)) 35 (zs 25 (zl (.t 24)) 36 (zs 26 (za .add (.t 25) (.c (.str [40, 100, 105, 115, 116, 105, 110, 99, 116, 32]))) 37 (zs 27 (.load true 11 (.t 1)) 38 (zs 28 (zc 32 [(.t 27), (.c (.int .i64 0))]) 39 (zs 29 (zc 12 [(.t 28)]) 40 (zs 30 (za .add (.t 26) (.t 29)) 41 (zs 31 (za .add (.t 30) (.c (.str [41]))) 42 (zs 2 (.move (.t 31)) 43 .done)))))))))) .ret) .skip))))))) (.seq (.reg (zs 32 (.faddr 1 (.t 1)) 44 (zs 33 (zl (.t 32)) 45 (zs 34 (za .add (.t 33) (.c (.str [40]))) 46 (zs 35 (.load true 11 (.t 1)) 47 (zs 36 (zc 32 [(.t 35), (.c (.int .i64 0))]) 48 (zs 37 (zc 12 [(.t 36)]) 49 (zs 38 (za .add (.t 34) (.t 37)) 50 (zs 39 (za .add (.t 38) (.c (.str [41]))) 51 (zs 2 (.move (.t 39)) 52 .done)))))))))) .ret))), [.tmp 2]⟩
theorem zcF (G : Nat → V) : zaX Tryz.prog G 10 31 = some L_expr_printCall := by kernel_rfl
def L_expr_listed : FC :=
 ⟨22, (.seq (.reg (zs 2 (.move (.c (.str []))) 10 .done)) (.seq (.reg (zs 3 (.move (.c .nils)) 11 .done)) (.seq (.seq (.reg (zs 6 (.move (.t 0)) 12 (zs 7 (.lenl (.t 6)) 13 (zs 8 (.move (.c (.int .i64 0))) 14 .done)))) (.block 0 (.loop (.seq (.reg (zs 9 (za .lss (.t 8) (.t 7)) 15 .done)) (.seq (.cond (.t 9) .skip (.exit 0)) (.seq (.block 1 (.seq (.reg (zs 10 (.iaddr 11 (.t 6) (.t 8)) 16 (zs 11 (.load true 11 (.t 10)) 17 (zs 5 (.alloc 27 zE) 18 (.step ⟨none, .store 11 (.t 5) (.t 11), 19, none, []⟩ .done))))) (.reg (zs 12 (.move (.t 3)) 20 (zs 13 (.load true 11 (.t 5)) 21 (zs 14 (zc 12 [(.t 13)]) 22 (zs 15 (.bslice 9 1 [(.t 14)]) 23 (zs 16 (.app 9 1 16 (.t 12) (.t 15)) 24 (zs 3 (.move (.t 16)) 25 .done))))))))) (.reg (zs 17 (za .add (.t 8) (.c (.int .i64 1))) 26 (zs 8 (.move (.t 17)) 27 .done))))))))) (.seq (.reg (zs 18 (.move (.t 3)) 28 (zs 19 (zc 53 [(.t 18), (.c (.str [44, 32]))]) 29 (zs 20 (za .add (.c (.str [40])) (.t 19)) 30 (zs 21 (za .add (.t 20) (.c (.str [41]))) 31 (zs 2 (.move (.t 21)) 32 .done)))))) .ret)))), [.tmp 2]⟩
theorem zjL (G : Nat → V) : zaX Tryz.prog G 10 29 = some L_expr_listed := by kernel_rfl
def L_expr_printCase : FC :=
 ⟨54, (.seq (.reg (zs 1 (.box 27 (.t 0)) 10 (zs 2 (.move (.c (.str []))) 11 .done))) (.seq (.reg (zs 5 (.faddr 10 (.t 1)) 12 (zs 6 (zl (.t 5)) 13 (zs 3 (.move (.t 6)) 14 .done)))) (.seq (.reg (zs 7 (.bslice 9 1 [(.c (.str [99, 97, 115, 101]))]) 15 (zs 4 (.move (.t 7)) 16 .done))) (.seq (.seq (.reg (zs 8 (.faddr 9 (.t 1)) 17 (zs 9 (zl (.t 8)) 18 (zs 10 (.move (.t 9)) 19 (.step ⟨(some 11), .move (.t 3), 20, (some (10, true)), []⟩ (.step ⟨(some 12), .lenl (.t 11), 21, (some (10, true)), []⟩ (.step ⟨(some 13), za .gtr (.t 12) (.c (.int .i64 0)), 22, (some (10, true)), []⟩ (zs 14 (.pick (.t 10) (.t 13) (.c (.bool false))) 23 .done)))))))) (.cond (.t 14) (.seq (.reg (zs 15 (.move (.t 4)) 24 (zs 16 (.move (.t 3)) 25 (zs 17 (.iaddr 11 (.t 16) (.c (.int .i64 0))) 26 (zs 18 (.load true 11 (.t 17)) 27 (zs 19 (zc 12 [(.t 18)]) 28 (zs 20 (.bslice 9 1 [(.t 19)]) 29 (zs 21 (.app 9 1 16 (.t 15) (.t 20)) 30 (zs 4 (.move (.t 21)) 31 .done))))))))) (.reg (zs 22 (.move (.t 3)) 32 (zs 23 (.sll 11 (.t 22) (some (.c (.int .i64 1))) none) 33 (zs 3 (.move (.t 23)) 34 .done))))) .skip)) (.seq (.block 0 (.loop (.seq (.seq (.reg (zs 24 (.move (.t 3)) 35 (zs 25 (.lenl (.t 24)) 36 (zs 26 (za .gtr (.t 25) (.c (.int .i64 1))) 37 .done)))) (.cond (.t 26) .skip (.exit 0))) (.seq (.block 1 (.reg (zs 29 (.move (.t 4)) 38 (zs 30 (.move (.t 3)) 39 (zs 31 (.iaddr 11 (.t 30) (.c (.int .i64 0))) 40 (zs 32 (.load true 11 (.t 31)) 41 (zs 34 (.move (.t 3)) 43 (zs 35 (.iaddr 11 (.t 34) (.c (.int .i64 1))) 44 (zs 36 (.load true 11 (.t 35)) 45 (zs 33 (zc 12 [(.t 32)]) 42 (zs 37 (zc 12 [(.t 36)]) 46 (zs 38 (.bslice 9 1 [(.c (.str [119, 104, 101, 110])), (.t 33), (.c (.str [116, 104, 101, 110])), (.t 37)]) 47 (zs 39 (.app 9 1 16 (.t 29) (.t 38)) 48 (zs 4 (.move (.t 39)) 49 .done)))))))))))))) (.reg (zs 27 (.move (.t 3)) 50 (zs 28 (.sll 11 (.t 27) (some (.c (.int .i64 2))) none) 51 (zs 3 (.move (.t 28)) 52 .done)))))))) (.seq (.seq (.reg (zs 40 (.move (.t 3)) 53 (zs 41 (.lenl (.t 40)) 54 (zs 42 (za .eql (.t 41) (.c (.int .i64 1))) 55 .done)))) (.cond (.t 42) (.reg (zs 43 (.move (.t 4)) 56 (zs 44 (.move (.t 3)) 57 (zs 45 (.iaddr 11 (.t 44) (.c (.int .i64 0))) 58 (zs 46 (.load true 11 (.t 45)) 59 (zs 47 (zc 12 [(.t 46)]) 60 (zs 48 (.bslice 9 1 [(.c (.str [101, 108, 115, 101])), (.t 47)]) 61 (zs 49 (.app 9 1 16 (.t 43) (.t 48)) 62 (zs 4 (.move (.t 49)) 63 .done))))))))) .skip)) (.seq (.reg (zs 50 (.move (.t 4)) 64 (zs 51 (.bslice 9 1 [(.c (.str [101, 110, 100]))]) 65 (zs 52 (.app 9 1 16 (.t 50) (.t 51)) 66 (zs 53 (zc 53 [(.t 52), (.c (.str [32]))]) 67 (zs 2 (.move (.t 53)) 68 .done)))))) .ret))))))), [.tmp 2]⟩
theorem zgD (G : Nat → V) : zaX Tryz.prog G 10 30 = some L_expr_printCase := by kernel_rfl
def L_expr_Print : FC :=
 ⟨124, (.seq (.reg (zs 1 (.box 27 (.t 0)) 10 (zs 2 (.move (.c (.str []))) 11 .done))) (.seq (.seq (.reg (zs 3 (.faddr 0 (.t 1)) 12 (zs 4 (zl (.t 3)) 13 .done))) (.block 0 (.seq (.reg (zs 6 (za .eql (.t 4) (.c (.int .i64 1))) 14 (zs 5 (.move (.t 6)) 15 .done))) (.cond (.t 5) (.seq (.reg (zs 7 (.faddr 2 (.t 1)) 16 (zs 8 (.load true 3 (.t 7)) 17 (zs 9 (zc 26 [(.t 8)]) 18 (zs 2 (.move (.t 9)) 19 .done))))) .ret) (.seq (.reg (zs 11 (za .eql (.t 4) (.c (.int .i64 2))) 20 (zs 10 (.move (.t 11)) 21 .done))) (.cond (.t 10) (.seq (.seq (.reg (zs 12 (.faddr 5 (.t 1)) 22 (zs 13 (zl (.t 12)) 23 (zs 14 (za .neq (.t 13) (.c (.str []))) 24 .done)))) (.cond (.t 14) (.seq (.reg (zs 15 (.faddr 5 (.t 1)) 25 (zs 16 (zl (.t 15)) 26 (zs 17 (za .add (.t 16) (.c (.str [46]))) 27 (zs 18 (.faddr 6 (.t 1)) 28 (zs 19 (zl (.t 18)) 29 (zs 20 (za .add (.t 17) (.t 19)) 30 (zs 2 (.move (.t 20)) 31 .done)))))))) .ret) .skip)) (.seq (.reg (zs 21 (.faddr 6 (.t 1)) 32 (zs 22 (zl (.t 21)) 33 (zs 2 (.move (.t 22)) 34 .done)))) .ret)) (.seq (.reg (zs 24 (za .eql (.t 4) (.c (.int .i64 3))) 35 (zs 23 (.move (.t 24)) 36 .done))) (.cond (.t 23) (.seq (.seq (.reg (zs 25 (.faddr 1 (.t 1)) 37 (zs 26 (zl (.t 25)) 38 (zs 27 (za .eql (.t 26) (.c (.str [110, 111, 116]))) 39 .done)))) (.cond (.t 27) (.seq (.reg (zs 28 (.load true 11 (.t 1)) 40 (zs 29 (zc 27 [(.t 28), (.c (.int .i64 0))]) 41 (zs 30 (za .add (.c (.str [110, 111, 116, 32])) (.t 29)) 42 (zs 2 (.move (.t 30)) 43 .done))))) .ret) .skip)) (.seq (.reg (zs 31 (.faddr 1 (.t 1)) 44 (zs 32 (zl (.t 31)) 45 (zs 33 (.load true 11 (.t 1)) 46 (zs 34 (zc 27 [(.t 33), (.c (.int .i64 0))]) 47 (zs 35 (za .add (.t 32) (.t 34)) 48 (zs 2 (.move (.t 35)) 49 .done))))))) .ret)) (.seq (.reg (zs 37 (za .eql (.t 4) (.c (.int .i64 4))) 50 (zs 36 (.move (.t 37)) 51 .done))) (.cond (.t 36) (.seq (.reg (zs 38 (.load true 11 (.t 1)) 52 (zs 41 (.faddr 1 (.t 1)) 55 (zs 42 (zl (.t 41)) 56 (zs 45 (.load true 11 (.t 1)) 59 (zs 39 (zc 27 [(.t 38), (.c (.int .i64 0))]) 53 (zs 40 (za .add (.t 39) (.c (.str [32]))) 54 (zs 43 (za .add (.t 40) (.t 42)) 57 (zs 44 (za .add (.t 43) (.c (.str [32]))) 58 (zs 46 (zc 27 [(.t 45), (.c (.int .i64 1))]) 60 (zs 47 (za .add (.t 44) (.t 46)) 61 (zs 2 (.move (.t 47)) 62 .done)))))))))))) .ret) (.seq (.reg (zs 49 (za .eql (.t 4) (.c (.int .i64 5))) 63 (zs 48 (.move (.t 49)) 64 .done))) (.cond (.t 48) (.seq (.seq (.reg (zs 50 (.faddr 8 (.t 1)) 65 (zs 51 (zl (.t 50)) 66 .done))) (.cond (.t 51) (.seq (.reg (zs 52 (.load true 11 (.t 1)) 67 (zs 55 (.load true 11 (.t 1)) 70 (zs 53 (zc 27 [(.t 52), (.c (.int .i64 0))]) 68 (zs 54 (za .add (.t 53) (.c (.str [32, 105, 115, 32, 110, 111, 116, 32]))) 69 (zs 56 (zc 27 [(.t 55), (.c (.int .i64 1))]) 71 (zs 57 (za .add (.t 54) (.t 56)) 72 (zs 2 (.move (.t 57)) 73 .done)))))))) .ret) .skip)) (.seq (.reg (zs 58 (.load true 11 (.t 1)) 74 (zs 61 (.load true 11 (.t 1)) 77 (zs 59 (zc 27 [(.t 58), (.c (.int .i64 0))]) 75 (zs 60 (za .add (.t 59) (.c (.str [32, 105, 115, 32]))) 76 (zs 62 (zc 27 [(.t 61), (.c (.int .i64 1))]) 78 (zs 63 (za .add (.t 60) (.t 62)) 79 (zs 2 (.move (.t 63)) 80 .done)))))))) .ret)) (.seq (.reg (zs 65 (za .eql (.t 4) (.c (.int .i64 6))) 81 (zs 64 (.move (.t 65)) 82 .done))) (.cond (.t 64) (.seq (.reg (zs 66 (.load true 11 (.t 1)) 83 (zs 68 (.load true 11 (.t 1)) 85 (zs 71 (.faddr 10 (.t 1)) 88 (zs 72 (zl (.t 71)) 89 (zs 73 (.faddr 10 (.t 1)) 90 (zs 74 (zl (.t 73)) 91 (.step ⟨(some 75), .lenl (.t 74), 92, none, [1, 1]⟩ (.step ⟨(some 76), .mm .min (.c (.int .i64 1)) (.t 75), 93, none, [1, 1]⟩ (zs 77 (.sll 11 (.t 72) (some (.t 76)) none) 94 (zs 67 (zc 27 [(.t 66), (.c (.int .i64 0))]) 84 (zs 69 (zc 28 [(.t 68), (.c (.str [105, 110]))]) 86 (zs 70 (za .add (.t 67) (.t 69)) 87 (zs 78 (zc 29 [(.t 77)]) 95 (zs 79 (za .add (.t 70) (.t 78)) 96 (zs 2 (.move (.t 79)) 97 .done)))))))))))))))) .ret) (.seq (.reg (zs 81 (za .eql (.t 4) (.c (.int .i64 7))) 98 (zs 80 (.move (.t 81)) 99 .done))) (.cond (.t 80) (.seq (.reg (zs 82 (.load true 11 (.t 1)) 100 (zs 84 (.load true 11 (.t 1)) 102 (zs 87 (.load true 11 (.t 1)) 105 (zs 91 (.load true 11 (.t 1)) 109 (zs 83 (zc 27 [(.t 82), (.c (.int .i64 0))]) 101 (zs 85 (zc 28 [(.t 84), (.c (.str [98, 101, 116, 119, 101, 101, 110]))]) 103 (zs 86 (za .add (.t 83) (.t 85)) 104 (zs 88 (zc 27 [(.t 87), (.c (.int .i64 1))]) 106 (zs 89 (za .add (.t 86) (.t 88)) 107 (zs 90 (za .add (.t 89) (.c (.str [32, 97, 110, 100, 32]))) 108 (zs 92 (zc 27 [(.t 91), (.c (.int .i64 2))]) 110 (zs 93 (za .add (.t 90) (.t 92)) 111 (zs 2 (.move (.t 93)) 112 .done)))))))))))))) .ret) (.seq (.reg (zs 95 (za .eql (.t 4) (.c (.int .i64 8))) 113 (zs 94 (.move (.t 95)) 114 .done))) (.cond (.t 94) (.seq (.reg (zs 96 (.load true 11 (.t 1)) 115 (zs 98 (.load true 11 (.t 1)) 117 (zs 101 (.load true 11 (.t 1)) 120 (zs 97 (zc 27 [(.t 96), (.c (.int .i64 0))]) 116 (zs 99 (zc 28 [(.t 98), (.c (.str [108, 105, 107, 101]))]) 118 (zs 100 (za .add (.t 97) (.t 99)) 119 (zs 102 (zc 27 [(.t 101), (.c (.int .i64 1))]) 121 (zs 103 (za .add (.t 100) (.t 102)) 122 (zs 2 (.move (.t 103)) 123 .done)))))))))) .ret) (.seq (.reg (zs 105 (za .eql (.t 4) (.c (.int .i64 9))) 124 (zs 104 (.move (.t 105)) 125 .done))) (.cond (.t 104) (.seq (.reg (zs 106 (.load true 11 (.t 1)) 126 (zs 107 (zc 30 [(.t 106)]) 127 (zs 2 (.move (.t 107)) 128 .done)))) .ret) (.seq (.seq (.reg (zs 109 (za .eql (.t 4) (.c (.int .i64 10))) 129 (zs 108 (.move (.t 109)) 130 .done))) (.cond (.t 108) .skip (.reg (zs 110 (za .eql (.t 4) (.c (.int .i64 11))) 131 (zs 108 (.move (.t 110)) 132 .done))))) (.cond (.t 108) (.seq (.reg (zs 111 (.load true 11 (.t 1)) 133 (zs 112 (zc 31 [(.t 111)]) 134 (zs 2 (.move (.t 112)) 135 .done)))) .ret) (.seq (.reg (zs 114 (za .eql (.t 4) (.c (.int .i64 12))) 136 (zs 113 (.move (.t 114)) 137 .done))) (.cond (.t 113) (.seq (.reg (zs 115 (.load true 11 (.t 1)) 138 (zs 120 (.faddr 1 (.t 1)) 143 (zs 121 (zl (.t 120)) 144 (zs 116 (zc 32 [(.t 115), (.c (.int .i64 0))]) 139 (zs 117 (zc 12 [(.t 116)]) 140 (zs 118 (za .add (.c (.str [99, 97, 115, 116, 40])) (.t 117)) 141 (zs 119 (za .add (.t 118) (.c (.str [32, 97, 115, 32]))) 142 (zs 122 (za .add (.t 119) (.t 121)) 145 (zs 123 (za .add (.t 122) (.c (.str [41]))) 146 (zs 2 (.move (.t 123)) 147 .done))))))))))) .ret) .skip)))))))))))))))))))))))) (.seq (.reg (zs 2 (.move (.c (.str []))) 148 .done)) .ret))), [.tmp 2]⟩
theorem zkV (G : Nat → V) : zaX Tryz.prog G 10 12 = some L_expr_Print := by kernel_rfl
end Go.Proofs.YtakegkongmnekaaGreatDoor
namespace Go.Proofs.YtakegkongmnekaaGreatDoor
open Go.RowKit
open Vm
attribute [local irreducible] wpR wpC
theorem zdh (k : Int) (o : Ex.S) (v : Ex.V) (t n : Ex.S) (s : Int) (g d : Bool) (a : List Ex.E) : Ex.deep (.mk k o v t n s g d a) = Ex.deeps a + 1 := by rw [Ex.deep]
theorem zfn (k : Int) (o : Ex.S) (v : Ex.V) (t n : Ex.S) (s : Int) (g d : Bool) (a : List Ex.E) : Ex.count (.mk k o v t n s g d a) = Ex.counts a + 1 := by rw [Ex.count]
theorem zf3 : ∀ (l : List Ex.E) (i : Nat) (h : i < l.length), Ex.deeps (l.take (i + 1)) = max (Ex.deeps (l.take i)) (Ex.deep l[i])
 | a :: l, 0, _ => by simp [Ex.deeps]
 | a :: l, i + 1, h => by
  have := zf3 l i (by simpa using h)
  simp only [List.take_succ_cons, Ex.deeps, this, List.getElem_cons_succ]
  omega
theorem zcy : ∀ {l : List Ex.E} {x : Ex.E}, x ∈ l → Ex.deep x ≤ Ex.deeps l
 | a :: l, x, h => by
  rw [Ex.deeps]
  rcases List.mem_cons.1 h with rfl | h
  ·omega
  ·have := zcy h; omega
theorem zpt (e : Ex.E) : 1 ≤ Ex.count e := by cases e; rw [Ex.count]; omega
theorem zb2 : ∀ {l : List Ex.E} {x : Ex.E}, x ∈ l → Ex.count x ≤ Ex.counts l
 | a :: l, x, h => by
  rw [Ex.counts]
  rcases List.mem_cons.1 h with rfl | h
  ·omega
  ·have := zb2 h; omega
theorem zb3 : ∀ l : List Ex.E, l.length ≤ Ex.counts l
 | [] => Nat.le_refl _
 | a :: l => by
  have := zb3 l
  have := zpt a
  rw [Ex.counts, List.length_cons]; omega
mutual
theorem zns : ∀ e, Ex.deep e ≤ Ex.count e
 | .mk _ _ _ _ _ _ _ _ a => by
  rw [Ex.deep, Ex.count]
  have := zc8 a
  omega
theorem zc8 : ∀ l, Ex.deeps l ≤ Ex.counts l
 | [] => Nat.le_refl _
 | e :: r => by
  rw [Ex.deeps, Ex.counts]
  have := zns e
  have := zc8 r
  omega
end
section
variable {G : Nat → Vm.V}
set_option maxHeartbeats 4000000 in
theorem m_Deep : ∀ (n : Nat) (e : Ex.E), Ex.deep e ≤ n → Ex.count e ≤ 900000 → Ret Tryz.prog G 16 [.agg (expC e)] (.int .i64 (Ex.deep e : Nat))
 | 0, .mk k o v t nm s g d a, h, _ => by rw [zdh] at h; omega
 | n + 1, .mk k o v t nm s g d a, h, hc => by
  rw [zdh] at h ⊢
  rw [zfn] at hc
  have hal := zb3 a
  have hdc := zc8 a
  have ih : ∀ x ∈ a, Ret Tryz.prog G 16 [.agg (expC x)] (.int .i64 (Ex.deep x : Nat)) := fun x hx => m_Deep n x (by have := zcy hx; omega) (by have := zb2 hx; omega)
  refine za7 (zlE G) (by simp [L_expr_Deep]) ?_
  show wpC _ _ 0 (panK 0 _) _ (retK 0 _ _) (mkX [(0, _)] [])
  have x0 := zx
  simp only [L_expr_Deep, zs, za, zl, zc, zE, expC]
  repeat' (first
   | refine ww ?_ | (refine ixl ?_; intro a ha) | (refine ixs ?_; intro c hc)
   | (refine cz ?_ ?_ <;> intro hb)
   | refine zah ?_ ?_)
  refine lp [3, 7, 8, 9] [] (fun i : Nat => [(3, .int .i64 (Ex.deeps (a.take i) : Nat)), (7, .list (a.map fun e => .agg (expC e))), (8, .int .i64 a.length), (9, .int .i64 (i : Int))]) (fun _ => []) (fun i => i ≤ a.length) (fun i => a.length - i) 0 (Nat.zero_le _) ?_ lo le
  intro i hi
  by_cases hlt : i < a.length
  ·have hx := ih a[i] (List.getElem_mem hlt)
   have hdt := zf3 a i hlt
   have hdm := zcy (List.getElem_mem hlt)
   by_cases hmx : Ex.deeps (a.take i) < Ex.deep a[i]
   ·rw [Nat.max_eq_right (by omega)] at hdt
    repeat' (first
     | refine ww ?_ | (refine ixl ?_; intro a ha) | (refine ixs ?_; intro c hc)
     | (refine cr (hx) ?_)
     | (refine cz ?_ ?_ <;> intro hb)
     | refine zah ?_ ?_)
    exact ⟨i + 1, hlt, by omega, lo, by rw [hdt]; exact le⟩
   ·rw [Nat.max_eq_left (by omega)] at hdt
    repeat' (first
     | refine ww ?_ | (refine ixl ?_; intro a ha) | (refine ixs ?_; intro c hc)
     | (refine cr (hx) ?_)
     | (refine cz ?_ ?_ <;> intro hb)
     | refine zah ?_ ?_)
    exact ⟨i + 1, hlt, by omega, lo, by rw [hdt]; exact le⟩
  ·obtain rfl : i = a.length := by omega
   repeat' (first
    | refine ww ?_ | (refine ixl ?_; intro a ha) | (refine ixs ?_; intro c hc)
    | (refine cz ?_ ?_ <;> intro hb)
    | refine zah ?_ ?_)
   simp [List.take_of_length_le]
set_option maxHeartbeats 4000000 in
theorem r_Deep : ∀ (n : Nat) (e : Ex.E), Ex.deep e ≤ n → Ex.count e ≤ 900000 → Ret Tryz.prog G 14 [.agg (expC e)] (.int .i64 (Ex.deep e : Nat))
 | 0, .mk k o v t nm s g d a, h, _ => by rw [zdh] at h; omega
 | n + 1, .mk k o v t nm s g d a, h, hc => by
  rw [zdh] at h ⊢
  rw [zfn] at hc
  have hal := zb3 a
  have hdc := zc8 a
  have ih : ∀ x ∈ a, Ret Tryz.prog G 14 [.agg (expC x)] (.int .i64 (Ex.deep x : Nat)) := fun x hx => r_Deep n x (by have := zcy hx; omega) (by have := zb2 hx; omega)
  refine za7 (zgB G) (by simp [L_tomeref25_Deep]) ?_
  show wpC _ _ 0 (panK 0 _) _ (retK 0 _ _) (mkX [(0, _)] [])
  have x0 := zx
  simp only [L_tomeref25_Deep, zs, za, zl, zc, zE, expC]
  repeat' (first
   | refine ww ?_ | (refine ixl ?_; intro a ha) | (refine ixs ?_; intro c hc)
   | (refine cz ?_ ?_ <;> intro hb)
   | refine zah ?_ ?_)
  refine lp [1, 3, 4] [10] (fun i : Nat => [(1, .ptr 10 0), (3, .int .i64 (Ex.deeps (a.take i) : Nat)), (4, .int .i64 (i : Int))]) (fun _ => [(10, .blk 27 [.int .i64 k, .str o, .int .i64 v.1, .int .i64 v.2.1, .str v.2.2, .str t, .str nm, .int .i64 s, .bool g, .bool d, .list (a.map fun e => .agg (expC e))])]) (fun i => i ≤ a.length) (fun i => a.length - i) 0 (Nat.zero_le _) ?_ lo le
  intro i hi
  by_cases hlt : i < a.length
  ·have hx := ih a[i] (List.getElem_mem hlt)
   have hdt := zf3 a i hlt
   have hdm := zcy (List.getElem_mem hlt)
   by_cases hmx : Ex.deeps (a.take i) < Ex.deep a[i]
   ·rw [Nat.max_eq_right (by omega)] at hdt
    repeat' (first
     | refine ww ?_ | (refine ixl ?_; intro a ha) | (refine ixs ?_; intro c hc)
     | (refine cr (hx) ?_)
     | (refine cz ?_ ?_ <;> intro hb)
     | refine zah ?_ ?_)
    exact ⟨i + 1, hlt, by omega, lo, by rw [hdt]; exact le⟩
   ·rw [Nat.max_eq_left (by omega)] at hdt
    repeat' (first
     | refine ww ?_ | (refine ixl ?_; intro a ha) | (refine ixs ?_; intro c hc)
     | (refine cr (hx) ?_)
     | (refine cz ?_ ?_ <;> intro hb)
     | refine zah ?_ ?_)
    exact ⟨i + 1, hlt, by omega, lo, by rw [hdt]; exact le⟩
  ·obtain rfl : i = a.length := by omega
   repeat' (first
    | refine ww ?_ | (refine ixl ?_; intro a ha) | (refine ixs ?_; intro c hc)
    | (refine cz ?_ ?_ <;> intro hb)
    | refine zah ?_ ?_)
   simp [List.take_of_length_le]
end
def parV (p : Nat) (r : Ex.R) : Vm.V := match r with
 | .ok [e] q => if 24 < Ex.deep e then .tup [.agg (expC Ex.e0), .int .i64 (p : Int), .int .i64 12] else .tup [.agg (expC e), .int .i64 (q : Int), .int .i64 0]
 | .ok _ _ => .undef
 | .stop q => .tup [.agg (expC Ex.e0), .int .i64 (q : Int), .int .i64 20]
end Go.Proofs.YtakegkongmnekaaGreatDoor
namespace Go.Proofs.YtakegkongmnekaaGreatDoor
open Go.RowKit
open Vm
attribute [local irreducible] wpR wpC
theorem inner_eq (k k' kv : Int) (T : Ex.S) : (if k = 3 then Ex.innU (k', kv, T) else Ex.inn (k', kv, T)) = if (3 ≤ k' ∧ k' ≤ 8) ∨ (k' = 1 ∧ k = 3 ∧ kv = 1) then 40 :: (T ++ [41]) else T := by
 by_cases h3 : k = 3
 ·rw [if_pos h3, Ex.innU]
  congr 1
  simp [Ex.ziD, h3]
 ·rw [if_neg h3, Ex.inn]
  congr 1
  simp [Ex.ziD, h3]
section
variable {G : Nat → Vm.V}
set_option maxHeartbeats 2000000 in
theorem zoY (k : Int) (o : Ex.S) (v : Ex.V) (t nm : Ex.S) (s : Int) (g d : Bool) (a : List Ex.E) (i : Nat) (x : Ex.E) (hx : a[i]? = some x) (hl : a.length ≤ 1000000) :
  Ret Tryz.prog G 32 [.agg (expC (.mk k o v t nm s g d a)), .int .i64 (i : Int)] (.agg (expC x)) := by
 obtain ⟨hi, rfl⟩ := List.getElem?_eq_some_iff.1 hx
 refine za7 (zlC G) (by simp [L_expr_part]) ?_
 show wpC _ _ 0 (panK 0 _) _ (retK 0 _ _) (mkX [(0, _), (1, _)] [])
 have x0 := zx
 simp only [L_expr_part, zs, za, zl, zc, zE, expC]
 repeat' (first
  | refine ww ?_ | (refine ixl ?_; intro a ha) | (refine ixs ?_; intro c hc)
  | (refine cz ?_ ?_ <;> intro hb)
  | refine zah ?_ ?_)
 rfl
set_option maxHeartbeats 2000000 in
theorem m_not (k : Int) (o : Ex.S) (v : Ex.V) (t nm : Ex.S) (s : Int) (g d : Bool) (a : List Ex.E) (w : Ex.S) (hw : w.length ≤ 1000) :
  Ret Tryz.prog G 28 [.agg (expC (.mk k o v t nm s g d a)), .str w] (.str (Ex.notW g w)) := by
 refine za7 (zny G) (by simp [L_expr_not]) ?_
 show wpC _ _ 0 (panK 0 _) _ (retK 0 _ _) (mkX [(0, _), (1, _)] [])
 have x0 := zx
 simp only [L_expr_not, zs, za, zl, zc, zE, expC]
 repeat' (first
  | refine ww ?_ | (refine ixl ?_; intro a ha) | (refine ixs ?_; intro c hc)
  | (refine cz ?_ ?_ <;> intro hb)
  | refine zah ?_ ?_)
 all_goals simp [Ex.notW, hb]
set_option maxHeartbeats 4000000 in
theorem zoZ (k : Int) (o : Ex.S) (v : Ex.V) (t nm : Ex.S) (s : Int) (g d : Bool) (a : List Ex.E) (i : Nat) (x : Ex.E) (T : Ex.S) (hx : a[i]? = some x) (hl : a.length ≤ 1000000) (hT : T.length ≤ 1000000000)
  (hp : Ret Tryz.prog G 12 [.agg (expC x)] (.str T)) :
  Ret Tryz.prog G 27 [.agg (expC (.mk k o v t nm s g d a)), .int .i64 (i : Int)] (.str (if k = 3 then Ex.innU (x.kind, x.val.1, T) else Ex.inn (x.kind, x.val.1, T))) := by
 have hq := zoY (G := G) k o v t nm s g d a i x hx hl
 refine za7 (zkU G) (by simp [L_expr_inner]) ?_
 show wpC _ _ 0 (panK 0 _) _ (retK 0 _ _) (mkX [(0, _), (1, _)] [])
 cases x with
 | mk k' o' v' t' nm' s' g' d' a' =>
  have x0 := zx
  simp only [L_expr_inner, zs, za, zl, zc, zE, expC]
  simp only [expC] at hp hq
  repeat' (first
   | refine ww ?_ | (refine ixl ?_; intro a ha) | (refine ixs ?_; intro c hc)
   | (refine cr (hq) ?_)
   | (refine cr (hp) ?_)
   | (refine cz ?_ ?_ <;> intro hb)
   | refine zah ?_ ?_)
  all_goals
   show V.str _ = V.str (if k = 3 then Ex.innU (k', v'.1, T) else Ex.inn (k', v'.1, T))
   rw [inner_eq]
   first
    | rw [if_pos (by omega)]
    | rw [if_neg (by omega)]
set_option maxHeartbeats 4000000 in
theorem zmv (l : List Ex.E) (hl : l.length ≤ 900000) (hlen : (Ex.zbP (Ex.prints l)).length ≤ 100000000)
  (hp : ∀ x ∈ l, Ret Tryz.prog G 12 [.agg (expC x)] (.str (Ex.print x)))
  (hj : ∀ xs : List (List UInt8), xs.length ≤ 1000000 → (Lib.join xs [44, 32]).length ≤ 1000000000 → Ret Tryz.prog G 53 [.list (xs.map Vm.V.str), .str [44, 32]] (.str (Lib.join xs [44, 32]))) :
  Ret Tryz.prog G 29 [.list (l.map fun e => .agg (expC e))] (.str (40 :: (Ex.zbP (Ex.prints l) ++ [41]))) := by
 refine za7 (zjL G) (by simp [L_expr_listed]) ?_
 show wpC _ _ 0 (panK 0 _) _ (retK 0 _ _) (mkX [(0, _)] [])
 have x0 := zx
 simp only [L_expr_listed, zs, za, zl, zc, zE]
 repeat' (first
  | refine ww ?_ | (refine ixl ?_; intro a ha) | (refine ixs ?_; intro c hc)
  | (refine cz ?_ ?_ <;> intro hb)
  | refine zah ?_ ?_)
 refine lp [0, 3, 6, 7, 8] [24] (fun i : Nat => [(0, .list (l.map fun e => .agg (expC e))), (3, if i = 0 then .nils else .row 24 i), (6, .list (l.map fun e => .agg (expC e))), (7, .int .i64 l.length), (8, .int .i64 (i : Int))]) (fun i => [(24, if i = 0 then .gone else .row 9 1 ((l.take i).map fun e => .str (Ex.print e)))]) (fun i => i ≤ l.length) (fun i => l.length - i) 0 (Nat.zero_le _) ?_ lo (by simp only [if_true]; exact le)
 intro i hi
 by_cases hlt : i < l.length
 ·have hx := hp l[i] (List.getElem_mem hlt)
  by_cases h0 : i = 0
  ·subst h0
   simp only [if_true]
   repeat' (first
    | refine ww ?_ | (refine ixl ?_; intro a ha) | (refine ixs ?_; intro c hc)
    | (refine cr (hx) ?_)
    | (refine cz ?_ ?_ <;> intro hb)
    | refine zah ?_ ?_)
   have ht : (l.take 1).map (fun e => Vm.V.str (Ex.print e)) = [Vm.V.str (Ex.print l[0])] := by rw [List.take_add_one]; simp [List.getElem?_eq_getElem hlt]
   exact ⟨1, hlt, by omega, lo, by simp only [Nat.one_ne_zero, if_false, Nat.zero_add, ht]; exact le⟩
  ·simp only [h0, if_false]
   have hal : ((l.take i).map (fun e => Vm.V.str (Ex.print e))).length = i := by simp; omega
   have ht : (l.take (i + 1)).map (fun e => Vm.V.str (Ex.print e)) = (l.take i).map (fun e => Vm.V.str (Ex.print e)) ++ [Vm.V.str (Ex.print l[i])] := by rw [List.take_add_one, List.map_append, List.getElem?_eq_getElem hlt]; rfl
   generalize hT : (l.take i).map (fun e => Vm.V.str (Ex.print e)) = T at *
   clear hT
   repeat' (first
    | refine ww ?_ | (refine ixl ?_; intro a ha) | (refine ixs ?_; intro c hc)
    | (refine cr (hx) ?_)
    | (refine cz ?_ ?_ <;> intro hb)
    | refine zah ?_ ?_)
   exact ⟨i + 1, hlt, by omega, lo, by simp only [Nat.add_eq_zero_iff, Nat.one_ne_zero, and_false, if_false, ht]; exact le⟩
 ·obtain rfl : i = l.length := by omega
  have hjl : Ex.zbP (Ex.prints l) = Lib.join (l.map Ex.print) [44, 32] := by rw [Ex.zhT, Ex.zcg, List.map_map]; rfl
  rw [hjl] at hlen ⊢
  by_cases h0 : l.length = 0
  ·rw [if_pos h0]
   repeat' (first
    | refine ww ?_ | (refine ixl ?_; intro a ha) | (refine ixs ?_; intro c hc)
    | (refine cr (hj [] (by decide) (by decide)) ?_)
    | (refine cz ?_ ?_ <;> intro hb)
    | refine zah ?_ ?_)
   obtain rfl := List.eq_nil_of_length_eq_zero h0
   rfl
  ·rw [if_neg h0, List.take_length]
   have hm : ∀ f : List UInt8 → Vm.V, l.map (fun e => f (Ex.print e)) = (l.map Ex.print).map f := fun f => by rw [List.map_map]; rfl
   rw [hm Vm.V.str]
   repeat' (first
    | refine ww ?_ | (refine ixl ?_; intro a ha) | (refine ixs ?_; intro c hc)
    | (refine cr (hj (l.map Ex.print) (by rw [List.length_map]; omega) (by omega)) ?_)
    | (refine cz ?_ ?_ <;> intro hb)
    | refine zah ?_ ?_)
   rfl
end
end Go.Proofs.YtakegkongmnekaaGreatDoor
namespace Go.Proofs.YtakegkongmnekaaGreatDoor
open Go.RowKit
open Vm
def L_text_Quote : FC :=
 ⟨26, (.seq (.reg (zs 1 (.box 24 (.t 0)) 10 (zs 2 (.move (.c (.str []))) 11 .done))) (.seq (.seq (.reg (zs 3 (.faddr 0 (.t 1)) 12 (zs 4 (zl (.t 3)) 13 .done))) (.block 0 (.seq (.reg (zs 6 (za .eql (.t 4) (.c (.int .i64 0))) 14 (zs 5 (.move (.t 6)) 15 .done))) (.cond (.t 5) (.seq (.reg (zs 2 (.move (.c (.str [110, 117, 108, 108]))) 16 .done)) .ret) (.seq (.reg (zs 8 (za .eql (.t 4) (.c (.int .i64 1))) 17 (zs 7 (.move (.t 8)) 18 .done))) (.cond (.t 7) (.seq (.reg (zs 9 (.faddr 1 (.t 1)) 19 (zs 10 (zl (.t 9)) 20 (zs 11 (zc 50 [(.t 10)]) 21 (zs 2 (.move (.t 11)) 22 .done))))) .ret) (.seq (.reg (zs 13 (za .eql (.t 4) (.c (.int .i64 2))) 23 (zs 12 (.move (.t 13)) 24 .done))) (.cond (.t 12) (.seq (.reg (zs 14 (.faddr 2 (.t 1)) 25 (zs 15 (zl (.t 14)) 26 (zs 16 (zc 51 [(.t 15), (.c (.str [39])), (.c (.str [39, 39]))]) 27 (zs 17 (za .add (.c (.str [39])) (.t 16)) 28 (zs 18 (za .add (.t 17) (.c (.str [39]))) 29 (zs 2 (.move (.t 18)) 30 .done))))))) .ret) (.seq (.reg (zs 20 (za .eql (.t 4) (.c (.int .i64 3))) 31 (zs 19 (.move (.t 20)) 32 .done))) (.cond (.t 19) (.seq (.reg (zs 21 (.faddr 2 (.t 1)) 33 (zs 22 (zl (.t 21)) 34 (zs 23 (zc 52 [(.t 22)]) 35 (zs 24 (za .add (.c (.str [120, 39])) (.t 23)) 36 (zs 25 (za .add (.t 24) (.c (.str [39]))) 37 (zs 2 (.move (.t 25)) 38 .done))))))) .ret) .skip)))))))))) (.seq (.reg (zs 2 (.move (.c (.str []))) 39 .done)) .ret))), [.tmp 2]⟩
theorem zkT (G : Nat → V) : zaX Tryz.prog G 10 26 = some L_text_Quote := by kernel_rfl
end Go.Proofs.YtakegkongmnekaaGreatDoor
namespace Go.Proofs.YtakegkongmnekaaGreatDoor
open Go.RowKit
open Vm
attribute [local irreducible] wpR wpC
theorem zbz {P : Program} {G : Nat → Vm.V} {f : FuncId} {args : List Vm.V} {R : POut → Prop} (hen : zfl P f = true) (hd : args.all V.data = true)
  (h : ∀ (w : World) (A : Nat → Nat → Prop) (vals : Array Value), (∀ b o, A b o → b < w.heap.size) → RepL w A args vals.toList → Calls P f vals w fun e w' => Below w.heap.size w w' ∧ ∃ o, R o ∧ OutRep w' A o e) : zaN P G f args [] fun o es => R o ∧ es = [] := by
 refine ⟨hen, fun w H A vals m hv => Calls.mono (h w A vals m.al (zen hv hd)) fun e w' ⟨hb, o, hR, ho⟩ => ?_⟩
 exact ⟨o, [], H, A, ⟨hR, rfl⟩, rfl, fun e he => by simp at he, m.below hb, ho⟩
theorem zlS {w : World} {A : Nat → Nat → Prop} : ∀ l : List Lx.TA, RepE w A 6 (l.map tokM) (l.flatMap zey)
 | [] => .nil 6
 | t :: l => by
  rw [List.map_cons, List.flatMap_cons]
  refine .cons 6 _ _ _ _ rfl (.agg _ _ rfl ?_) (zlS l)
  exact .cons _ _ _ _ (.int _ _) (.cons _ _ _ _ (.str _) (.cons _ _ _ _ (.int _ _) (.cons _ _ _ _ (.int _ _) (.cons _ _ _ _ (.str _) (.cons _ _ _ _ (.int _ _) .nil)))))
theorem own_rep {w : World} {A : Nat → Nat → Prop} {base T : Nat} {v : Value} {l : List Lx.TA} (h : w.ownsRow base T 6 v l.length (l.flatMap zey)) (hA : ∀ b o, A b o → b < base) : RepV w A (.list (l.map tokM)) v := by
 obtain ⟨h0, h | ⟨g, cap, cur, h1, h2, h3, h4, h5, h6, h7⟩⟩ := h
 ·obtain ⟨rfl, hl⟩ := h
  obtain rfl : l = [] := List.eq_nil_of_length_eq_zero hl
  exact .nil _ _
 ·subst h1
  cases l with
  | nil => exact .nil _ _
  | cons t l =>
   have := RepV.list (w := w) (A := A) ((t :: l).map tokM) 6 g 0 cap ((t :: l).flatMap zey) (by simp) (zlS _) ⟨?_, fun j u hu => ⟨?_, fun hAA => by have := hA _ _ hAA; omega⟩⟩ (by simpa using h4) h5
   ·simpa using this
   ·exact (Array.getElem?_eq_some_iff.1 h3).1
   ·rw [Nat.zero_add]
    rw [← h7, List.getElem?_take] at hu
    split at hu
    ·simp only [World.cell?, h3]
     simpa using hu
    ·cases hu
def zfL (s : List UInt8) : Vm.V := .tup [.list ((Lx.scan s).1.map tokM), .int .i64 ((Lx.scan s).2.1 : Int), .int .i64 (Lx.scan s).2.2]
theorem zl7 {w w' : World} {A : Nat → Nat → Prop} {s : List UInt8} {e : Ending} (hA : ∀ b o, A b o → b < w.heap.size) (h : scanE w (Lx.scan s) e w') : Below w.heap.size w w' ∧ ∃ o, o = .ret (zfL s) ∧ OutRep w' A o e := by
 obtain ⟨v, rfl, h1, h2⟩ := h
 exact ⟨h2, _, rfl, _, rfl, .tup _ _ (.cons _ _ _ _ (own_rep h1 hA) (.cons _ _ _ _ (.int _ _) (.cons _ _ _ _ (.int _ _) .nil)))⟩
theorem m_Scan {G : Nat → Vm.V} {s : List UInt8} (hs : s.length ≤ 1000000) : Ret Tryz.prog G 17 [.str s] (zfL s) := by
 refine zbz (by kernel_rfl) rfl fun w A vals hA hv => ?_
 rw [zd6 hv]
 refine Calls.mono (scan_any (Lx.bs s) w (by rw [Lx.zaA]; omega)) fun e w' h => ?_
 rw [Lx.zbd] at h
 exact zl7 hA h
theorem r_Scan {G : Nat → Vm.V} {s : List UInt8} (hs : s.length ≤ 1000000) : Ret Tryz.prog G 20 [.str s] (zfL s) := by
 refine zbz (by kernel_rfl) rfl fun w A vals hA hv => ?_
 rw [zd6 hv]
 refine Calls.mono (zoi (Lx.bs s) w (by rw [Lx.zaA]; omega)) fun e w' h => ?_
 rw [Lx.zbd] at h
 exact zl7 hA h
end Go.Proofs.YtakegkongmnekaaGreatDoor
namespace Go.Proofs.YtakegkongmnekaaGreatDoor
open Go.RowKit
open Vm
attribute [local irreducible] wpR wpC
section
variable {G : Nat → Vm.V}
theorem zoH {w w' : World} {A : Nat → Nat → Prop} {e : Ending} {t : List UInt8} (h : e = .returned (.string (Lx.bs t)) ∧ Below w.heap.size w w') : Below w.heap.size w w' ∧ ∃ o, o = POut.ret (.str t) ∧ OutRep w' A o e := by
 obtain ⟨rfl, h2⟩ := h
 exact ⟨h2, _, rfl, _, rfl, .str t⟩
theorem zoo {w : World} {A : Nat → Nat → Prop} {k : IntKind} {n : Int} {vals : Array Value} (h : RepL w A [.int k n] vals.toList) : vals = #[.int k n] := by
 obtain ⟨l⟩ := vals
 cases h with
 | cons _ _ v vs h1 h2 =>
  cases h1
  cases h2
  rfl
theorem m_Num {n : Int} (h1 : -9223372036854775808 ≤ n) (h2 : n ≤ 9223372036854775807) : Ret Tryz.prog G 50 [.int .i64 n] (.str (Ox.num n)) := by
 refine zbz (by kernel_rfl) rfl fun w A vals hA hv => ?_
 rw [zoo hv]
 exact Calls.mono (tnum_any n w h1 h2) fun e w' h => zoH h
theorem m_Hex {s : List UInt8} (hs : s.length ≤ 1000000) : Ret Tryz.prog G 52 [.str s] (.str (Ox.hex s)) := by
 refine zbz (by kernel_rfl) rfl fun w A vals hA hv => ?_
 rw [zd6 hv]
 refine Calls.mono (thex_any (Lx.bs s) w (by rw [Lx.zaA]; omega)) fun e w' h => ?_
 rw [Lx.zbd] at h
 exact zoH h
theorem zix : ∀ s : Ex.S, (Ex.zdq s).length ≤ 2 * s.length
 | [] => Nat.le_refl _
 | c :: r => by
  have := zix r
  rw [Ex.zdq]
  split <;> simp <;> omega
def Repl (G : Nat → Vm.V) : Prop := ∀ s : List UInt8, s.length ≤ 1000000 → Ret Tryz.prog G 51 [.str s, .str [39], .str [39, 39]] (.str (Ex.zdq s))
set_option maxHeartbeats 4000000 in
theorem m_Quote (hr : Repl G) (v1 v2 : Int) (v3 : Ex.S) (h1 : -9223372036854775808 ≤ v2) (h2 : v2 ≤ 9223372036854775807) (h3 : v3.length ≤ 1000000) :
  Ret Tryz.prog G 26 [.agg [.int .i64 v1, .int .i64 v2, .str v3]] (.str (Ex.valP (v1, v2, v3))) := by
 refine za7 (zkT G) (by simp [L_text_Quote]) ?_
 show wpC _ _ 0 (panK 0 _) _ (retK 0 _ _) (mkX [(0, _)] [])
 simp only [L_text_Quote, zs, za, zl, zc, zE]
 have hq := zix v3
 have hx := zpd v3
 have F1 := m_Num (G := G) h1 h2
 have F2 := m_Hex (G := G) h3
 have F3 := hr v3 h3
 repeat' (first
  | refine ww ?_ | (refine ixl ?_; intro a ha) | (refine ixs ?_; intro c hc)
  | (refine cr (F1) ?_)
  | (refine cr (F2) ?_)
  | (refine cr (F3) ?_)
  | (refine cz ?_ ?_ <;> intro hb)
  | refine zah ?_ ?_)
 all_goals simp_all [Ex.valP, Ex.zdk]
end
end Go.Proofs.YtakegkongmnekaaGreatDoor
namespace Go.Proofs.YtakegkongmnekaaGreatDoor
open Go.RowKit
open Vm
attribute [local irreducible] wpR wpC
def zkX (G : Nat → Vm.V) (sep : List UInt8) : Prop := ∀ xs : List (List UInt8), xs.length ≤ 1000000 → (Lib.join xs sep).length ≤ 1000000000 → Ret Tryz.prog G 53 [.list (xs.map Vm.V.str), .str sep] (.str (Lib.join xs sep))
section
variable {G : Nat → Vm.V}
set_option maxHeartbeats 4000000 in
theorem zo0 (o : Ex.S) (v : Ex.V) (t nm : Ex.S) (s : Int) (g d : Bool) (a : List Ex.E) (T : Ex.S) (hT : T.length + o.length ≤ 100000000)
  (hp : Ret Tryz.prog G 29 [.list (a.map fun e => .agg (expC e))] (.str T)) :
  Ret Tryz.prog G 31 [.agg (expC (.mk 10 o v t nm s g d a))] (.str (o ++ T)) := by
 refine za7 (zcF G) (by simp [L_expr_printCall]) ?_
 show wpC _ _ 0 (panK 0 _) _ (retK 0 _ _) (mkX [(0, _)] [])
 have x0 := zx
 simp only [L_expr_printCall, zs, za, zl, zc, zE, expC]
 repeat' (first
  | refine ww ?_ | (refine ixl ?_; intro a ha) | (refine ixs ?_; intro c hc)
  | (refine cr (hp) ?_)
  | (refine cz ?_ ?_ <;> intro hb)
  | refine zah ?_ ?_)
 rfl
set_option maxHeartbeats 4000000 in
theorem zng (o : Ex.S) (v : Ex.V) (t nm : Ex.S) (s : Int) (g d : Bool) (x : Ex.E) (T : Ex.S) (hT : T.length + o.length ≤ 100000000)
  (hp : Ret Tryz.prog G 12 [.agg (expC x)] (.str T)) :
  Ret Tryz.prog G 31 [.agg (expC (.mk 11 o v t nm s g d [x]))] (.str (if d then o ++ [40, 100, 105, 115, 116, 105, 110, 99, 116, 32] ++ T ++ [41] else o ++ [40] ++ T ++ [41])) := by
 have hq := zoY (G := G) 11 o v t nm s g d [x] 0 x rfl (by simp)
 refine za7 (zcF G) (by simp [L_expr_printCall]) ?_
 show wpC _ _ 0 (panK 0 _) _ (retK 0 _ _) (mkX [(0, _)] [])
 have x0 := zx
 simp only [L_expr_printCall, zs, za, zl, zc, zE, expC]
 simp only [expC] at hq
 repeat' (first
  | refine ww ?_ | (refine ixl ?_; intro a ha) | (refine ixs ?_; intro c hc)
  | (refine cr (hq) ?_)
  | (refine cr (hp) ?_)
  | (refine cz ?_ ?_ <;> intro hb)
  | refine zah ?_ ?_)
 all_goals (rw [hb]; simp)
set_option maxHeartbeats 4000000 in
theorem zlu (o : Ex.S) (v : Ex.V) (t nm : Ex.S) (s : Int) (g d : Bool) (hT : o.length ≤ 100000000) :
  Ret Tryz.prog G 31 [.agg (expC (.mk 11 o v t nm s g d []))] (.str (o ++ [40, 42, 41])) := by
 refine za7 (zcF G) (by simp [L_expr_printCall]) ?_
 show wpC _ _ 0 (panK 0 _) _ (retK 0 _ _) (mkX [(0, _)] [])
 have x0 := zx
 simp only [L_expr_printCall, zs, za, zl, zc, zE, expC]
 repeat' (first
  | refine ww ?_ | (refine ixl ?_; intro a ha) | (refine ixs ?_; intro c hc)
  | (refine cz ?_ ?_ <;> intro hb)
  | refine zah ?_ ?_)
 rfl
def wl (l : List Ex.E) : List Ex.S := Ex.zbq (Ex.prints l)
theorem zfF : ∀ l : List Ex.C, (Ex.zbq l).length = 2 * l.length
 | [] => rfl
 | [c] => rfl
 | c :: d :: r => by rw [Ex.zbq]; simp only [List.length_cons, zfF r]; omega
theorem ziy (l : List Ex.E) : (Ex.prints l).length = l.length := by rw [Ex.zcg, List.length_map]
theorem zlo (l : List Ex.E) (n : Nat) : (Ex.prints l).drop n = Ex.prints (l.drop n) := by rw [Ex.zcg, Ex.zcg, List.map_drop]
set_option maxHeartbeats 8000000 in
theorem m_case (o : Ex.S) (v : Ex.V) (t nm : Ex.S) (s : Int) (g d : Bool) (a : List Ex.E) (hl : a.length ≤ 400000) (hd : d = true → a ≠ []) (hlen : (Ex.zgt d (Ex.prints a)).length ≤ 100000000)
  (hp : ∀ x ∈ a, Ret Tryz.prog G 12 [.agg (expC x)] (.str (Ex.print x))) (hj : zkX G [32]) :
  Ret Tryz.prog G 30 [.agg (expC (.mk 9 o v t nm s g d a))] (.str (Ex.zgt d (Ex.prints a))) := by
 refine za7 (zgD G) (by simp [L_expr_printCase]) ?_
 show wpC _ _ 0 (panK 0 _) _ (retK 0 _ _) (mkX [(0, _)] [])
 have x0 := zx
 simp only [L_expr_printCase, zs, za, zl, zc, zE, expC]
 rw [Ex.zpA] at hlen ⊢
 generalize hWd : Ex.wCase :: ((if d = true then (Ex.kid (Ex.prints a) 0).2.2 :: Ex.zbq ((Ex.prints a).drop 1) else Ex.zbq (Ex.prints a)) ++ [Ex.wEnd]) = W at hlen ⊢
 have hWl : (Lib.join W [32]).length ≤ 100000000 := hlen
 have hWn : W.length ≤ 1000000 := by
  rw [← hWd]
  cases d
  ·simp only [Bool.false_eq_true, if_false, List.length_cons, List.length_append, zfF, ziy, List.length_nil]; omega
  ·simp only [if_true, List.length_cons, List.length_append, zfF, ziy, List.length_nil, List.length_drop]; omega
 cases d
 ·replace hWd : [Ex.wCase] ++ (wl a ++ [Ex.wEnd]) = W := by rw [← hWd]; rfl
  repeat' (first
   | refine ww ?_ | (refine ixl ?_; intro a ha) | (refine ixs ?_; intro c hc)
   | (refine cz ?_ ?_ <;> intro hb)
   | refine zah ?_ ?_)
  refine lp [3, 4] [15] (fun q : List Ex.E × List Ex.S => [(3, .list (q.1.map fun e => .agg (expC e))), (4, .row 15 q.2.length)]) (fun q => [(15, .row 9 1 (q.2.map Vm.V.str))]) (fun q => (∀ x ∈ q.1, x ∈ a) ∧ q.2 ++ (wl q.1 ++ [Ex.wEnd]) = W ∧ q.1.length ≤ 400000) (fun q => q.1.length) ((a, [Ex.wCase])) ⟨fun _ h => h, hWd, hl⟩ ?_ lo le
  rintro ⟨rest, words⟩ ⟨hsub, hW, hrl⟩
  have tk1 : ∀ u : Vm.V, List.take (words.length + 1) (words.map Vm.V.str ++ [u]) = words.map Vm.V.str ++ [u] := fun u => List.take_of_length_le (by simp)
  have tk3 : ∀ u u' u'' : Vm.V, List.take (words.length + 3) (words.map Vm.V.str ++ [u, u', u'']) = words.map Vm.V.str ++ [u, u', u''] := fun u u' u'' => List.take_of_length_le (by simp)
  have hwl : words.length ≤ 1000000 := by
   have := congrArg List.length hW
   simp only [List.length_append] at this
   omega
  rcases rest with _ | ⟨x, _ | ⟨y, r⟩⟩
  ·have F := hj (words ++ [Ex.wEnd]) (by have := congrArg List.length hW; simp [wl, Ex.prints, Ex.zbq] at this ⊢; omega) (by rw [← hW] at hWl; simpa [wl, Ex.prints, Ex.zbq] using Nat.le_trans hWl (by omega))
   rw [show Lib.join (words ++ [Ex.wEnd]) [32] = Lib.join W [32] from by rw [← hW]; simp [wl, Ex.prints, Ex.zbq]] at F
   simp only [List.map_append, List.map_cons, List.map_nil] at F
   repeat' (first
    | refine ww ?_ | (refine ixl ?_; intro a ha) | (refine ixs ?_; intro c hc)
    | (refine cr (F) ?_)
    | (refine cz ?_ ?_ <;> intro hb)
    | refine zah ?_ ?_)
   rfl
  ·have hx := hp x (hsub x (by simp))
   have F := hj (words ++ [Ex.zcA, Ex.print x, Ex.wEnd]) (by have := congrArg List.length hW; simp [wl, Ex.prints, Ex.zbq] at this ⊢; omega) (by rw [← hW] at hWl; simpa [wl, Ex.prints, Ex.zbq] using Nat.le_trans hWl (by omega))
   rw [show Lib.join (words ++ [Ex.zcA, Ex.print x, Ex.wEnd]) [32] = Lib.join W [32] from by rw [← hW]; simp [wl, Ex.prints, Ex.zbq]] at F
   simp only [List.map_append, List.map_cons, List.map_nil] at F
   repeat' (first
    | refine ww ?_ | (refine ixl ?_; intro a ha) | (refine ixs ?_; intro c hc)
    | (refine cr (F) ?_)
    | (refine cr (hx) ?_)
    | (refine cz ?_ ?_ <;> intro hb)
    | refine zah ?_ ?_)
   rfl
  ·have hx := hp x (hsub x (by simp))
   have hy := hp y (hsub y (by simp))
   simp only [List.length_cons] at hrl
   have hg1 : (1 : Int) < (r.length : Int) + 1 + 1 := by omega
   have hdr : List.drop (Int.toNat 2) (List.take (r.length + 1 + 1) (x :: y :: r)) = r := by simp
   repeat' (first
    | refine ww ?_ | (refine ixl ?_; intro a ha) | (refine ixs ?_; intro c hc)
    | (refine cr (hx) ?_)
    | (refine cr (hy) ?_)
    | (refine cz ?_ ?_ <;> intro hb)
    | refine zah ?_ ?_)
   refine ⟨(r, words ++ [Ex.zb4, Ex.print x, Ex.zda, Ex.print y]), ⟨fun z hz => hsub z (by simp [hz]), ?_, by dsimp only; omega⟩, by simp <;> omega, lo, ?_⟩
   ·rw [← hW]; simp [wl, Ex.prints, Ex.zbq]
   ·simp only [List.map_append, List.map_cons, List.map_nil, List.length_append, List.length_cons, List.length_nil]
    exact le
 ·have hne := hd rfl
  have h0 : 0 < a.length := List.length_pos_iff.2 hne
  have hx0 := hp a[0] (List.getElem_mem h0)
  replace hWd : [Ex.wCase, Ex.print a[0]] ++ (wl (a.drop 1) ++ [Ex.wEnd]) = W := by
   rw [← hWd, wl, zlo]
   have : (Ex.kid (Ex.prints a) 0).2.2 = Ex.print a[0] := by rw [Ex.kid, Ex.zcg, List.getElem?_map, List.getElem?_eq_getElem h0]; rfl
   rw [this]; rfl
  have hdr : List.drop (Int.toNat 1) (List.take a.length a) = a.drop 1 := by rw [List.take_length]; rfl
  repeat' (first
   | refine ww ?_ | (refine ixl ?_; intro a ha) | (refine ixs ?_; intro c hc)
   | (refine cr (hx0) ?_)
   | (refine cz ?_ ?_ <;> intro hb)
   | refine zah ?_ ?_)
  refine lp [3, 4] [15] (fun q : List Ex.E × List Ex.S => [(3, .list (q.1.map fun e => .agg (expC e))), (4, .row 15 q.2.length)]) (fun q => [(15, .row 9 1 (q.2.map Vm.V.str))]) (fun q => (∀ x ∈ q.1, x ∈ a) ∧ q.2 ++ (wl q.1 ++ [Ex.wEnd]) = W ∧ q.1.length ≤ 400000) (fun q => q.1.length) ((a.drop 1, [Ex.wCase, Ex.print a[0]])) ⟨fun _ h => List.mem_of_mem_drop h, hWd, by rw [List.length_drop]; omega⟩ ?_ lo le
  rintro ⟨rest, words⟩ ⟨hsub, hW, hrl⟩
  have tk1 : ∀ u : Vm.V, List.take (words.length + 1) (words.map Vm.V.str ++ [u]) = words.map Vm.V.str ++ [u] := fun u => List.take_of_length_le (by simp)
  have tk3 : ∀ u u' u'' : Vm.V, List.take (words.length + 3) (words.map Vm.V.str ++ [u, u', u'']) = words.map Vm.V.str ++ [u, u', u''] := fun u u' u'' => List.take_of_length_le (by simp)
  have hwl : words.length ≤ 1000000 := by
   have := congrArg List.length hW
   simp only [List.length_append] at this
   omega
  rcases rest with _ | ⟨x, _ | ⟨y, r⟩⟩
  ·have F := hj (words ++ [Ex.wEnd]) (by have := congrArg List.length hW; simp [wl, Ex.prints, Ex.zbq] at this ⊢; omega) (by rw [← hW] at hWl; simpa [wl, Ex.prints, Ex.zbq] using Nat.le_trans hWl (by omega))
   rw [show Lib.join (words ++ [Ex.wEnd]) [32] = Lib.join W [32] from by rw [← hW]; simp [wl, Ex.prints, Ex.zbq]] at F
   simp only [List.map_append, List.map_cons, List.map_nil] at F
   repeat' (first
    | refine ww ?_ | (refine ixl ?_; intro a ha) | (refine ixs ?_; intro c hc)
    | (refine cr (F) ?_)
    | (refine cz ?_ ?_ <;> intro hb)
    | refine zah ?_ ?_)
   rfl
  ·have hx := hp x (hsub x (by simp))
   have F := hj (words ++ [Ex.zcA, Ex.print x, Ex.wEnd]) (by have := congrArg List.length hW; simp [wl, Ex.prints, Ex.zbq] at this ⊢; omega) (by rw [← hW] at hWl; simpa [wl, Ex.prints, Ex.zbq] using Nat.le_trans hWl (by omega))
   rw [show Lib.join (words ++ [Ex.zcA, Ex.print x, Ex.wEnd]) [32] = Lib.join W [32] from by rw [← hW]; simp [wl, Ex.prints, Ex.zbq]] at F
   simp only [List.map_append, List.map_cons, List.map_nil] at F
   repeat' (first
    | refine ww ?_ | (refine ixl ?_; intro a ha) | (refine ixs ?_; intro c hc)
    | (refine cr (F) ?_)
    | (refine cr (hx) ?_)
    | (refine cz ?_ ?_ <;> intro hb)
    | refine zah ?_ ?_)
   rfl
  ·have hx := hp x (hsub x (by simp))
   have hy := hp y (hsub y (by simp))
   simp only [List.length_cons] at hrl
   have hg1 : (1 : Int) < (r.length : Int) + 1 + 1 := by omega
   have hdr : List.drop (Int.toNat 2) (List.take (r.length + 1 + 1) (x :: y :: r)) = r := by simp
   repeat' (first
    | refine ww ?_ | (refine ixl ?_; intro a ha) | (refine ixs ?_; intro c hc)
    | (refine cr (hx) ?_)
    | (refine cr (hy) ?_)
    | (refine cz ?_ ?_ <;> intro hb)
    | refine zah ?_ ?_)
   refine ⟨(r, words ++ [Ex.zb4, Ex.print x, Ex.zda, Ex.print y]), ⟨fun z hz => hsub z (by simp [hz]), ?_, by dsimp only; omega⟩, by simp <;> omega, lo, ?_⟩
   ·rw [← hW]; simp [wl, Ex.prints, Ex.zbq]
   ·simp only [List.map_append, List.map_cons, List.map_nil, List.length_append, List.length_cons, List.length_nil]
    exact le
end
end Go.Proofs.YtakegkongmnekaaGreatDoor
namespace Go.Proofs.YtakegkongmnekaaGreatDoor
open Go.RowKit
open Vm
attribute [local irreducible] wpR wpC
def shape (k : Int) (d : Bool) (n : Nat) : Prop :=
 k = 1 ∨ k = 2 ∨ (k = 3 ∧ n = 1) ∨ (k = 4 ∧ n = 2) ∨ (k = 5 ∧ n = 2) ∨ (k = 6 ∧ 2 ≤ n) ∨ (k = 7 ∧ n = 3) ∨ (k = 8 ∧ n = 2) ∨ (k = 9 ∧ 2 ≤ n) ∨ (k = 10 ∧ d = false) ∨ (k = 11 ∧ n = 1) ∨ (k = 11 ∧ n = 0) ∨ (k = 12 ∧ n = 1)
theorem zoF {k : Int} {o : Ex.S} {v : Ex.V} {t m : Ex.S} {g d : Bool} {n : Nat} (h : Ex.ownF k o v t m g d n = true) : shape k d n := by
 unfold Ex.ownF at h
 unfold shape
 by_cases hk : k = 1
 ·rw [if_pos hk] at h
  simp only [Bool.and_eq_true, Bool.or_eq_true, Bool.not_eq_true', decide_eq_true_eq] at h
  simp only [hk]
  first | (simp; done) | (simp_all; done) | (simp_all; omega)
 rw [if_neg hk] at h
 by_cases hk : k = 2
 ·rw [if_pos hk] at h
  simp only [Bool.and_eq_true, Bool.or_eq_true, Bool.not_eq_true', decide_eq_true_eq] at h
  simp only [hk]
  first | (simp; done) | (simp_all; done) | (simp_all; omega)
 rw [if_neg hk] at h
 by_cases hk : k = 3
 ·rw [if_pos hk] at h
  simp only [Bool.and_eq_true, Bool.or_eq_true, Bool.not_eq_true', decide_eq_true_eq] at h
  simp only [hk]
  first | (simp; done) | (simp_all; done) | (simp_all; omega)
 rw [if_neg hk] at h
 by_cases hk : k = 4
 ·rw [if_pos hk] at h
  simp only [Bool.and_eq_true, Bool.or_eq_true, Bool.not_eq_true', decide_eq_true_eq] at h
  simp only [hk]
  first | (simp; done) | (simp_all; done) | (simp_all; omega)
 rw [if_neg hk] at h
 by_cases hk : k = 5
 ·rw [if_pos hk] at h
  simp only [Bool.and_eq_true, Bool.or_eq_true, Bool.not_eq_true', decide_eq_true_eq] at h
  simp only [hk]
  first | (simp; done) | (simp_all; done) | (simp_all; omega)
 rw [if_neg hk] at h
 by_cases hk : k = 6
 ·rw [if_pos hk] at h
  simp only [Bool.and_eq_true, Bool.or_eq_true, Bool.not_eq_true', decide_eq_true_eq] at h
  simp only [hk]
  first | (simp; done) | (simp_all; done) | (simp_all; omega)
 rw [if_neg hk] at h
 by_cases hk : k = 7
 ·rw [if_pos hk] at h
  simp only [Bool.and_eq_true, Bool.or_eq_true, Bool.not_eq_true', decide_eq_true_eq] at h
  simp only [hk]
  first | (simp; done) | (simp_all; done) | (simp_all; omega)
 rw [if_neg hk] at h
 by_cases hk : k = 8
 ·rw [if_pos hk] at h
  simp only [Bool.and_eq_true, Bool.or_eq_true, Bool.not_eq_true', decide_eq_true_eq] at h
  simp only [hk]
  first | (simp; done) | (simp_all; done) | (simp_all; omega)
 rw [if_neg hk] at h
 by_cases hk : k = 9
 ·rw [if_pos hk] at h
  simp only [Bool.and_eq_true, Bool.or_eq_true, Bool.not_eq_true', decide_eq_true_eq] at h
  simp only [hk]
  first | (simp; done) | (simp_all; done) | (simp_all; omega)
 rw [if_neg hk] at h
 by_cases hk : k = 10
 ·rw [if_pos hk] at h
  simp only [Bool.and_eq_true, Bool.or_eq_true, Bool.not_eq_true', decide_eq_true_eq] at h
  simp only [hk]
  first | (simp; done) | (simp_all; done) | (simp_all; omega)
 rw [if_neg hk] at h
 by_cases hk : k = 11
 ·rw [if_pos hk] at h
  simp only [Bool.and_eq_true, Bool.or_eq_true, Bool.not_eq_true', decide_eq_true_eq] at h
  simp only [hk]
  first | (simp; done) | (simp_all; done) | (simp_all; omega)
 rw [if_neg hk] at h
 by_cases hk : k = 12
 ·rw [if_pos hk] at h
  simp only [Bool.and_eq_true, Bool.or_eq_true, Bool.not_eq_true', decide_eq_true_eq] at h
  simp only [hk]
  first | (simp; done) | (simp_all; done) | (simp_all; omega)
 rw [if_neg hk] at h
 cases h
inductive Qt : Ex.E → Prop
 | mk {e : Ex.E} : Ex.N64 e → e.val.2.2.length ≤ 1000000 → (∀ x ∈ e.args, Qt x) → Qt e
theorem Qt.n {e : Ex.E} (h : Qt e) : Ex.N64 e := by cases h; assumption
theorem Qt.v {e : Ex.E} (h : Qt e) : e.val.2.2.length ≤ 1000000 := by cases h; assumption
theorem Qt.a {e : Ex.E} (h : Qt e) : ∀ x ∈ e.args, Qt x := by cases h; assumption
theorem zeG (c : Ex.C) : c.2.2.length ≤ (Ex.inn c).length := by
 unfold Ex.inn; split <;> simp <;> omega
theorem innU_ge (c : Ex.C) : c.2.2.length ≤ (Ex.innU c).length := by
 unfold Ex.innU; split <;> simp <;> omega
abbrev kO (e : Ex.E) : Ex.C := (e.kind, e.val.1, Ex.print e)
theorem zf5 : ∀ {l : List Ex.E} {x : Ex.E}, x ∈ l → (Ex.print x).length ≤ (Ex.zbP (Ex.prints l)).length
 | [y], x, h => by
  obtain rfl := List.mem_singleton.1 h
  exact Nat.le_refl _
 | y :: z :: r, x, h => by
  rw [Ex.prints, Ex.prints, Ex.zbP]
  ·rcases List.mem_cons.1 h with rfl | h
   ·simp only [List.length_append]; omega
   ·have := zf5 h
    rw [Ex.prints] at this
    simp only [List.length_append]; omega
  ·intro h; cases h
theorem zg3 : ∀ {l : List Ex.E} {x : Ex.E}, x ∈ l → (Ex.print x).length ≤ (Ex.zc0 (Ex.prints l)).length
 | [y], x, h => by
  obtain rfl := List.mem_singleton.1 h
  rw [Ex.prints, Ex.prints, Ex.zc0]
  simp only [List.length_append]; omega
 | y :: z :: r, x, h => by
  rw [Ex.prints, Ex.prints, Ex.zc0]
  simp only [List.length_append]
  rcases List.mem_cons.1 h with rfl | h
  ·omega
  ·rcases List.mem_cons.1 h with rfl | h
   ·omega
   ·have := zg3 h
    omega
theorem case_mem {d : Bool} {l : List Ex.E} {x : Ex.E} (h : x ∈ l) : (Ex.print x).length ≤ (Ex.zgt d (Ex.prints l)).length := by
 unfold Ex.zgt
 cases d
 ·have := zg3 h
  simp only [Bool.false_eq_true, if_false, List.length_append]; omega
 ·simp only [if_true, List.length_append]
  cases l with
  | nil => cases h
  | cons y r =>
   rw [Ex.prints]
   simp only [Ex.kid, List.drop_succ_cons, List.drop_zero, List.getElem?_cons_zero, Option.getD_some]
   rcases List.mem_cons.1 h with rfl | h
   ·omega
   ·have := zg3 h
    omega
section
variable {G : Nat → Vm.V}
theorem m_innU (o : Ex.S) (v : Ex.V) (t nm : Ex.S) (s : Int) (g d : Bool) (a : List Ex.E) (i : Nat) (x : Ex.E) (hx : a[i]? = some x) (hl : a.length ≤ 1000000) (hT : (Ex.print x).length ≤ 1000000000)
  (hp : Ret Tryz.prog G 12 [.agg (expC x)] (.str (Ex.print x))) :
  Ret Tryz.prog G 27 [.agg (expC (.mk 3 o v t nm s g d a)), .int .i64 (i : Int)] (.str (Ex.innU (kO x))) := by
 have := zoZ (G := G) 3 o v t nm s g d a i x (Ex.print x) hx hl hT hp
 rwa [if_pos rfl] at this
theorem zeD (k : Int) (hk : k ≠ 3) (o : Ex.S) (v : Ex.V) (t nm : Ex.S) (s : Int) (g d : Bool) (a : List Ex.E) (i : Nat) (x : Ex.E) (hx : a[i]? = some x) (hl : a.length ≤ 1000000) (hT : (Ex.print x).length ≤ 1000000000)
  (hp : Ret Tryz.prog G 12 [.agg (expC x)] (.str (Ex.print x))) :
  Ret Tryz.prog G 27 [.agg (expC (.mk k o v t nm s g d a)), .int .i64 (i : Int)] (.str (Ex.inn (kO x))) := by
 have := zoZ (G := G) k o v t nm s g d a i x (Ex.print x) hx hl hT hp
 rwa [if_neg hk] at this
set_option maxHeartbeats 16000000 in
theorem zo1 (hr : Repl G) (j1 : zkX G [44, 32]) (j2 : zkX G [32]) : ∀ (n : Nat) (e : Ex.E), Ex.deep e ≤ n → Ex.count e ≤ 400000 → Ex.right e = true → Qt e → (Ex.print e).length ≤ 100000000 → Ret Tryz.prog G 12 [.agg (expC e)] (.str (Ex.print e))
 | 0, .mk k o v t nm s g d a, h, _, _, _, _ => by rw [zdh] at h; omega
 | n + 1, .mk k o (v1, v2, v3) t nm s g d a, h, hc, hR, hQ, hl => by
  rw [zdh] at h
  rw [zfn] at hc
  rw [Ex.right, Bool.and_eq_true, Ex.zfP, List.all_eq_true] at hR
  obtain ⟨hO, hR⟩ := hR
  have hS : shape k d a.length := zoF hO
  have hal := zb3 a
  have ih : ∀ x ∈ a, (Ex.print x).length ≤ 100000000 → Ret Tryz.prog G 12 [.agg (expC x)] (.str (Ex.print x)) := fun x hx hl => zo1 hr j1 j2 n x (by have := zcy hx; omega) (by have := zb2 hx; omega) (hR x hx) (hQ.a x hx) hl
  have hv := hQ.v
  have hn := hQ.n
  simp only [Ex.N64, Ex.E.val] at hn hv
  clear hR hQ h hO
  refine za7 (zkV G) (by simp [L_expr_Print]) ?_
  show wpC _ _ 0 (panK 0 _) _ (retK 0 _ _) (mkX [(0, _)] [])
  have x0 := zx
  rcases hS with rfl | rfl | ⟨rfl, ha⟩ | ⟨rfl, ha⟩ | ⟨rfl, ha⟩ | ⟨rfl, ha⟩ | ⟨rfl, ha⟩ | ⟨rfl, ha⟩ | ⟨rfl, ha⟩ | ⟨rfl, hd⟩ | ⟨rfl, ha⟩ | ⟨rfl, ha⟩ | ⟨rfl, ha⟩
  ·have hpr : Ex.print (.mk 1 o (v1, v2, v3) t nm s g d a) = Ex.valP (v1, v2, v3) := by rw [Ex.print]; rfl
   rw [hpr] at hl ⊢
   have F := m_Quote (G := G) hr v1 v2 v3 hn.2 hn.1 hv
   simp only [L_expr_Print, zs, za, zl, zc, zE, expC]
   repeat' (first
    | refine ww ?_ | (refine ixl ?_; intro a ha) | (refine ixs ?_; intro c hc)
    | (refine cr (F) ?_)
    | (refine cz ?_ ?_ <;> intro hb)
    | refine zah ?_ ?_)
   rfl
  ·have hpr : Ex.print (.mk 2 o (v1, v2, v3) t nm s g d a) = if t = [] then nm else t ++ [46] ++ nm := by rw [Ex.print]; rfl
   rw [hpr] at hl ⊢
   by_cases ht : t = []
   ·rw [if_pos ht] at hl ⊢
    simp only [L_expr_Print, zs, za, zl, zc, zE, expC]
    repeat' (first
     | refine ww ?_ | (refine ixl ?_; intro a ha) | (refine ixs ?_; intro c hc)
     | (refine cz ?_ ?_ <;> intro hb)
     | refine zah ?_ ?_)
    rfl
   ·rw [if_neg ht] at hl ⊢
    simp only [List.length_append, List.length_cons, List.length_nil] at hl
    simp only [L_expr_Print, zs, za, zl, zc, zE, expC]
    repeat' (first
     | refine ww ?_ | (refine ixl ?_; intro a ha) | (refine ixs ?_; intro c hc)
     | (refine cz ?_ ?_ <;> intro hb)
     | refine zah ?_ ?_)
    all_goals simp
  ·obtain ⟨x, rfl⟩ := List.length_eq_one_iff.1 ha
   have hpr : Ex.print (.mk 3 o (v1, v2, v3) t nm s g d [x]) = if o = Ex.wNot then Ex.wNot ++ [32] ++ Ex.innU (kO x) else o ++ Ex.innU (kO x) := by rw [Ex.print]; rfl
   rw [hpr] at hl ⊢
   have hl2 : (Ex.innU (kO x)).length + o.length ≤ 100000000 := by
    by_cases ho : o = Ex.wNot
    ·rw [if_pos ho] at hl
     rw [ho]; simp only [List.length_append, List.length_cons, List.length_nil] at hl ⊢; omega
    ·rw [if_neg ho] at hl
     simp only [List.length_append, List.length_cons, List.length_nil] at hl
     omega
   clear hl
   have hga := innU_ge (kO x)
   have Ia := m_innU (G := G) o (v1, v2, v3) t nm s g d [x] 0 x rfl (by first | (simp; done) | (simp at hal ⊢; omega)) (by dsimp only at hga; omega) (ih x (by simp) (by dsimp only at hga; omega))
   simp only [expC] at Ia
   generalize Ex.innU (kO x) = T at *
   simp only [L_expr_Print, zs, za, zl, zc, zE, expC]
   repeat' (first
    | refine ww ?_ | (refine ixl ?_; intro a ha) | (refine ixs ?_; intro c hc)
    | (refine cr (Ia) ?_)
    | (refine cz ?_ ?_ <;> intro hb)
    | refine zah ?_ ?_)
   all_goals simp_all [Ex.wNot]
  ·obtain ⟨x, y, rfl⟩ := Ex.len2 ha
   have hpr : Ex.print (.mk 4 o (v1, v2, v3) t nm s g d [x, y]) = Ex.inn (kO x) ++ [32] ++ o ++ [32] ++ Ex.inn (kO y) := by rw [Ex.print]; rfl
   rw [hpr] at hl ⊢
   simp only [List.length_append, List.length_cons, List.length_nil] at hl
   have hga := zeG (kO x)
   have Ia := zeD 4 (by decide) (G := G) o (v1, v2, v3) t nm s g d [x, y] 0 x rfl (by first | (simp; done) | (simp at hal ⊢; omega)) (by dsimp only at hga; omega) (ih x (by simp) (by dsimp only at hga; omega))
   simp only [expC] at Ia
   have hgb := zeG (kO y)
   have Ib := zeD 4 (by decide) (G := G) o (v1, v2, v3) t nm s g d [x, y] 1 y rfl (by first | (simp; done) | (simp at hal ⊢; omega)) (by dsimp only at hgb; omega) (ih y (by simp) (by dsimp only at hgb; omega))
   simp only [expC] at Ib
   generalize Ex.inn (kO x) = T at *
   generalize Ex.inn (kO y) = U at *
   simp only [L_expr_Print, zs, za, zl, zc, zE, expC]
   repeat' (first
    | refine ww ?_ | (refine ixl ?_; intro a ha) | (refine ixs ?_; intro c hc)
    | (refine cr (Ia) ?_)
    | (refine cr (Ib) ?_)
    | (refine cz ?_ ?_ <;> intro hb)
    | refine zah ?_ ?_)
   all_goals first | (simp; done) | trace_state
  ·obtain ⟨x, y, rfl⟩ := Ex.len2 ha
   have hpr : Ex.print (.mk 5 o (v1, v2, v3) t nm s g d [x, y]) = Ex.inn (kO x) ++ [32] ++ Ex.wIs ++ [32] ++ (if g then Ex.wNot ++ [32] else []) ++ Ex.inn (kO y) := by rw [Ex.print]; rfl
   rw [hpr] at hl ⊢
   simp only [List.length_append, List.length_cons, List.length_nil] at hl
   have hga := zeG (kO x)
   have Ia := zeD 5 (by decide) (G := G) o (v1, v2, v3) t nm s g d [x, y] 0 x rfl (by first | (simp; done) | (simp at hal ⊢; omega)) (by dsimp only at hga; omega) (ih x (by simp) (by dsimp only at hga; omega))
   simp only [expC] at Ia
   have hgb := zeG (kO y)
   have Ib := zeD 5 (by decide) (G := G) o (v1, v2, v3) t nm s g d [x, y] 1 y rfl (by first | (simp; done) | (simp at hal ⊢; omega)) (by dsimp only at hgb; omega) (ih y (by simp) (by dsimp only at hgb; omega))
   simp only [expC] at Ib
   generalize Ex.inn (kO x) = T at *
   generalize Ex.inn (kO y) = U at *
   simp only [L_expr_Print, zs, za, zl, zc, zE, expC]
   repeat' (first
    | refine ww ?_ | (refine ixl ?_; intro a ha) | (refine ixs ?_; intro c hc)
    | (refine cr (Ia) ?_)
    | (refine cr (Ib) ?_)
    | (refine cz ?_ ?_ <;> intro hb)
    | refine zah ?_ ?_)
   all_goals (rw [hb]; simp [Ex.wIs, Ex.wNot])
  ·obtain ⟨x, r, rfl⟩ : ∃ x r, a = x :: r := by
    cases a with
    | nil => simp at ha
    | cons x r => exact ⟨x, r, rfl⟩
   have hpr : Ex.print (.mk 6 o (v1, v2, v3) t nm s g d (x :: r)) = Ex.inn (kO x) ++ Ex.notW g [105, 110] ++ [40] ++ Ex.zbP (Ex.prints r) ++ [41] := by rw [Ex.print]; rfl
   rw [hpr] at hl ⊢
   simp only [List.length_append, List.length_cons, List.length_nil] at hl
   have hga := zeG (kO x)
   have Ia := zeD 6 (by decide) (G := G) o (v1, v2, v3) t nm s g d (x :: r) 0 x rfl (by first | (simp; done) | (simp at hal ⊢; omega)) (by dsimp only at hga; omega) (ih x (by simp) (by dsimp only at hga; omega))
   simp only [expC] at Ia
   have Fn := m_not (G := G) 6 o (v1, v2, v3) t nm s g d (x :: r) [105, 110] (by decide)
   simp only [expC] at Fn
   have Fl := zmv (G := G) r (by simp at hal; omega) (by omega) (fun z hz => ih z (by simp [hz]) (by have := zf5 hz; omega)) j1
   simp only [List.length_cons] at hal ha
   have hdr : List.drop (Int.toNat 1) (List.take (r.length + 1) (x :: r)) = r := by simp
   have hg1 : ¬ (r.length : Int) + 1 < 1 := by omega
   generalize Ex.inn (kO x) = T at *
   generalize Ex.notW g [105, 110] = U at *
   generalize Ex.zbP (Ex.prints r) = W at *
   simp only [L_expr_Print, zs, za, zl, zc, zE, expC]
   repeat' (first
    | refine ww ?_ | (refine ixl ?_; intro a ha) | (refine ixs ?_; intro c hc)
    | (refine cr (Ia) ?_)
    | (refine cr (Fn) ?_)
    | (refine cr (Fl) ?_)
    | (refine cz ?_ ?_ <;> intro hb)
    | refine zah ?_ ?_)
   all_goals first | (simp; done) | trace_state
  ·obtain ⟨x, y, z, rfl⟩ := Ex.len3 ha
   have hpr : Ex.print (.mk 7 o (v1, v2, v3) t nm s g d [x, y, z]) = Ex.inn (kO x) ++ Ex.notW g [98, 101, 116, 119, 101, 101, 110] ++ Ex.inn (kO y) ++ [32] ++ Ex.wAnd ++ [32] ++ Ex.inn (kO z) := by rw [Ex.print]; rfl
   rw [hpr] at hl ⊢
   simp only [List.length_append, List.length_cons, List.length_nil] at hl
   have hga := zeG (kO x)
   have Ia := zeD 7 (by decide) (G := G) o (v1, v2, v3) t nm s g d [x, y, z] 0 x rfl (by first | (simp; done) | (simp at hal ⊢; omega)) (by dsimp only at hga; omega) (ih x (by simp) (by dsimp only at hga; omega))
   simp only [expC] at Ia
   have hgb := zeG (kO y)
   have Ib := zeD 7 (by decide) (G := G) o (v1, v2, v3) t nm s g d [x, y, z] 1 y rfl (by first | (simp; done) | (simp at hal ⊢; omega)) (by dsimp only at hgb; omega) (ih y (by simp) (by dsimp only at hgb; omega))
   simp only [expC] at Ib
   have hgc := zeG (kO z)
   have Ic := zeD 7 (by decide) (G := G) o (v1, v2, v3) t nm s g d [x, y, z] 2 z rfl (by first | (simp; done) | (simp at hal ⊢; omega)) (by dsimp only at hgc; omega) (ih z (by simp) (by dsimp only at hgc; omega))
   simp only [expC] at Ic
   have Fn := m_not (G := G) 7 o (v1, v2, v3) t nm s g d [x, y, z] [98, 101, 116, 119, 101, 101, 110] (by decide)
   simp only [expC] at Fn
   generalize Ex.inn (kO x) = T at *
   generalize Ex.inn (kO y) = U at *
   generalize Ex.inn (kO z) = W at *
   generalize Ex.notW g _ = X at *
   simp only [L_expr_Print, zs, za, zl, zc, zE, expC]
   repeat' (first
    | refine ww ?_ | (refine ixl ?_; intro a ha) | (refine ixs ?_; intro c hc)
    | (refine cr (Ia) ?_)
    | (refine cr (Ib) ?_)
    | (refine cr (Ic) ?_)
    | (refine cr (Fn) ?_)
    | (refine cz ?_ ?_ <;> intro hb)
    | refine zah ?_ ?_)
   all_goals first | (simp [Ex.wAnd]; done) | trace_state
  ·obtain ⟨x, y, rfl⟩ := Ex.len2 ha
   have hpr : Ex.print (.mk 8 o (v1, v2, v3) t nm s g d [x, y]) = Ex.inn (kO x) ++ Ex.notW g [108, 105, 107, 101] ++ Ex.inn (kO y) := by rw [Ex.print]; rfl
   rw [hpr] at hl ⊢
   simp only [List.length_append, List.length_cons, List.length_nil] at hl
   have hga := zeG (kO x)
   have Ia := zeD 8 (by decide) (G := G) o (v1, v2, v3) t nm s g d [x, y] 0 x rfl (by first | (simp; done) | (simp at hal ⊢; omega)) (by dsimp only at hga; omega) (ih x (by simp) (by dsimp only at hga; omega))
   simp only [expC] at Ia
   have hgb := zeG (kO y)
   have Ib := zeD 8 (by decide) (G := G) o (v1, v2, v3) t nm s g d [x, y] 1 y rfl (by first | (simp; done) | (simp at hal ⊢; omega)) (by dsimp only at hgb; omega) (ih y (by simp) (by dsimp only at hgb; omega))
   simp only [expC] at Ib
   have Fn := m_not (G := G) 8 o (v1, v2, v3) t nm s g d [x, y] [108, 105, 107, 101] (by decide)
   simp only [expC] at Fn
   generalize Ex.inn (kO x) = T at *
   generalize Ex.inn (kO y) = U at *
   generalize Ex.notW g _ = X at *
   simp only [L_expr_Print, zs, za, zl, zc, zE, expC]
   repeat' (first
    | refine ww ?_ | (refine ixl ?_; intro a ha) | (refine ixs ?_; intro c hc)
    | (refine cr (Ia) ?_)
    | (refine cr (Ib) ?_)
    | (refine cr (Fn) ?_)
    | (refine cz ?_ ?_ <;> intro hb)
    | refine zah ?_ ?_)
   all_goals first | (simp; done) | trace_state
  ·have hpr : Ex.print (.mk 9 o (v1, v2, v3) t nm s g d a) = Ex.zgt d (Ex.prints a) := by rw [Ex.print]; rfl
   rw [hpr] at hl ⊢
   have F := m_case (G := G) o (v1, v2, v3) t nm s g d a (by omega) (fun _ h => by subst h; simp at ha) hl (fun z hz => ih z hz (by have := case_mem (d := d) hz; omega)) j2
   simp only [expC] at F
   generalize Ex.zgt d (Ex.prints a) = T at *
   simp only [L_expr_Print, zs, za, zl, zc, zE, expC]
   repeat' (first
    | refine ww ?_ | (refine ixl ?_; intro a ha) | (refine ixs ?_; intro c hc)
    | (refine cr (F) ?_)
    | (refine cz ?_ ?_ <;> intro hb)
    | refine zah ?_ ?_)
   rfl
  ·subst hd
   have hpr : Ex.print (.mk 10 o (v1, v2, v3) t nm s g false a) = o ++ ([40] ++ Ex.zbP (Ex.prints a) ++ [41]) := by rw [Ex.print]; show o ++ [40] ++ Ex.zbP (Ex.prints a) ++ [41] = _; simp
   rw [hpr] at hl ⊢
   simp only [List.length_append, List.length_cons, List.length_nil] at hl
   have Fl := zmv (G := G) a (by omega) (by omega) (fun z hz => ih z hz (by have := zf5 hz; omega)) j1
   have F := zo0 (G := G) o (v1, v2, v3) t nm s g false a _ (by simp only [List.length_append, List.length_cons, List.length_nil]; omega) Fl
   simp only [expC] at F
   generalize Ex.zbP (Ex.prints a) = T at *
   simp only [L_expr_Print, zs, za, zl, zc, zE, expC]
   repeat' (first
    | refine ww ?_ | (refine ixl ?_; intro a ha) | (refine ixs ?_; intro c hc)
    | (refine cr (F) ?_)
    | (refine cz ?_ ?_ <;> intro hb)
    | refine zah ?_ ?_)
   simp
  ·obtain ⟨x, rfl⟩ := List.length_eq_one_iff.1 ha
   have hpr : Ex.print (.mk 11 o (v1, v2, v3) t nm s g d [x]) = if d then o ++ [40] ++ Ex.wDistinct ++ [32] ++ Ex.print x ++ [41] else o ++ [40] ++ Ex.print x ++ [41] := by rw [Ex.print]; rfl
   rw [hpr] at hl ⊢
   have hl2 : (Ex.print x).length + o.length ≤ 100000000 := by
    cases d
    ·simp only [Bool.false_eq_true, if_false, List.length_append, List.length_cons, List.length_nil] at hl; omega
    ·simp only [if_true, List.length_append, List.length_cons, List.length_nil] at hl; omega
   have F := zng (G := G) o (v1, v2, v3) t nm s g d x _ hl2 (ih x (by simp) (by omega))
   simp only [expC] at F
   simp only [L_expr_Print, zs, za, zl, zc, zE, expC]
   repeat' (first
    | refine ww ?_ | (refine ixl ?_; intro a ha) | (refine ixs ?_; intro c hc)
    | (refine cr (F) ?_)
    | (refine cz ?_ ?_ <;> intro hb)
    | refine zah ?_ ?_)
   cases d <;> simp [Ex.wDistinct]
  ·obtain rfl := List.eq_nil_of_length_eq_zero ha
   have hpr : Ex.print (.mk 11 o (v1, v2, v3) t nm s g d []) = o ++ [40, 42, 41] := by rw [Ex.print]; rfl
   rw [hpr] at hl ⊢
   simp only [List.length_append, List.length_cons, List.length_nil] at hl
   have F := zlu (G := G) o (v1, v2, v3) t nm s g d (by omega)
   simp only [expC] at F
   simp only [L_expr_Print, zs, za, zl, zc, zE, expC]
   repeat' (first
    | refine ww ?_ | (refine ixl ?_; intro a ha) | (refine ixs ?_; intro c hc)
    | (refine cr (F) ?_)
    | (refine cz ?_ ?_ <;> intro hb)
    | refine zah ?_ ?_)
   rfl
  ·obtain ⟨x, rfl⟩ := List.length_eq_one_iff.1 ha
   have hpr : Ex.print (.mk 12 o (v1, v2, v3) t nm s g d [x]) = Ex.zcI ++ [40] ++ Ex.print x ++ [32] ++ Ex.wAs ++ [32] ++ o ++ [41] := by rw [Ex.print]; rfl
   rw [hpr] at hl ⊢
   simp only [List.length_append, List.length_cons, List.length_nil] at hl
   have hx := ih x (by simp) (by omega)
   have hq := zoY (G := G) 12 o (v1, v2, v3) t nm s g d [x] 0 x rfl (by simp)
   simp only [expC] at hq
   generalize Ex.print x = T at *
   simp only [L_expr_Print, zs, za, zl, zc, zE, expC]
   repeat' (first
    | refine ww ?_ | (refine ixl ?_; intro a ha) | (refine ixs ?_; intro c hc)
    | (refine cr (hq) ?_)
    | (refine cr (hx) ?_)
    | (refine cz ?_ ?_ <;> intro hb)
    | refine zah ?_ ?_)
   all_goals first | (simp [Ex.zcI, Ex.wAs]; done) | trace_state
end
end Go.Proofs.YtakegkongmnekaaGreatDoor
namespace Go.Proofs.YtakegkongmnekaaGreatDoor
open Go.RowKit
open Vm
def L_tomeref25_Same : FC :=
 ⟨92, (.seq (.reg (zs 2 (.box 27 (.t 0)) 10 (zs 3 (.box 27 (.t 1)) 11 (zs 4 (.move (.c (.bool false))) 12 .done)))) (.seq (.seq (.reg (zs 6 (.faddr 0 (.t 2)) 13 (zs 7 (zl (.t 6)) 14 (zs 8 (.faddr 0 (.t 3)) 15 (zs 9 (zl (.t 8)) 16 (zs 10 (za .neq (.t 7) (.t 9)) 17 (zs 11 (.move (.t 10)) 18 (.step ⟨(some 12), .faddr 1 (.t 2), 19, (some (11, false)), []⟩ (.step ⟨(some 13), zl (.t 12), 20, (some (11, false)), []⟩ (.step ⟨(some 14), .faddr 1 (.t 3), 21, (some (11, false)), []⟩ (.step ⟨(some 15), zl (.t 14), 22, (some (11, false)), []⟩ (.step ⟨(some 16), za .neq (.t 13) (.t 15), 23, (some (11, false)), []⟩ (zs 17 (.pick (.t 11) (.c (.bool true)) (.t 16)) 24 (zs 18 (.move (.t 17)) 25 (.step ⟨(some 19), .faddr 2 (.t 2), 26, (some (18, false)), []⟩ (.step ⟨(some 20), .load true 3 (.t 19), 27, (some (18, false)), []⟩ (.step ⟨(some 21), .faddr 2 (.t 3), 28, (some (18, false)), []⟩ (.step ⟨(some 22), .load true 3 (.t 21), 29, (some (18, false)), []⟩ (.step ⟨(some 23), .arith .neq true true false (.t 20) (.t 22), 30, (some (18, false)), []⟩ (zs 24 (.pick (.t 18) (.c (.bool true)) (.t 23)) 31 (zs 25 (.move (.t 24)) 32 (.step ⟨(some 26), .faddr 5 (.t 2), 33, (some (25, false)), []⟩ (.step ⟨(some 27), zl (.t 26), 34, (some (25, false)), []⟩ (.step ⟨(some 29), .faddr 5 (.t 3), 36, (some (25, false)), []⟩ (.step ⟨(some 30), zl (.t 29), 37, (some (25, false)), []⟩ (.step ⟨(some 28), zc 45 [(.t 27)], 35, (some (25, false)), []⟩ (.step ⟨(some 31), zc 45 [(.t 30)], 38, (some (25, false)), []⟩ (.step ⟨(some 32), za .neq (.t 28) (.t 31), 39, (some (25, false)), []⟩ (zs 33 (.pick (.t 25) (.c (.bool true)) (.t 32)) 40 (zs 34 (.move (.t 33)) 41 (.step ⟨(some 35), .faddr 6 (.t 2), 42, (some (34, false)), []⟩ (.step ⟨(some 36), zl (.t 35), 43, (some (34, false)), []⟩ (.step ⟨(some 38), .faddr 6 (.t 3), 45, (some (34, false)), []⟩ (.step ⟨(some 39), zl (.t 38), 46, (some (34, false)), []⟩ (.step ⟨(some 37), zc 45 [(.t 36)], 44, (some (34, false)), []⟩ (.step ⟨(some 40), zc 45 [(.t 39)], 47, (some (34, false)), []⟩ (.step ⟨(some 41), za .neq (.t 37) (.t 40), 48, (some (34, false)), []⟩ (zs 42 (.pick (.t 34) (.c (.bool true)) (.t 41)) 49 (zs 43 (.move (.t 42)) 50 (.step ⟨(some 44), .faddr 7 (.t 2), 51, (some (43, false)), []⟩ (.step ⟨(some 45), zl (.t 44), 52, (some (43, false)), []⟩ (.step ⟨(some 46), .faddr 7 (.t 3), 53, (some (43, false)), []⟩ (.step ⟨(some 47), zl (.t 46), 54, (some (43, false)), []⟩ (.step ⟨(some 48), za .neq (.t 45) (.t 47), 55, (some (43, false)), []⟩ (zs 49 (.pick (.t 43) (.c (.bool true)) (.t 48)) 56 (zs 50 (.move (.t 49)) 57 (.step ⟨(some 51), .faddr 8 (.t 2), 58, (some (50, false)), []⟩ (.step ⟨(some 52), zl (.t 51), 59, (some (50, false)), []⟩ (.step ⟨(some 53), .faddr 8 (.t 3), 60, (some (50, false)), []⟩ (.step ⟨(some 54), zl (.t 53), 61, (some (50, false)), []⟩ (.step ⟨(some 55), .arith .neq true false false (.t 52) (.t 54), 62, (some (50, false)), []⟩ (zs 56 (.pick (.t 50) (.c (.bool true)) (.t 55)) 63 (zs 57 (.move (.t 56)) 64 (.step ⟨(some 58), .faddr 9 (.t 2), 65, (some (57, false)), []⟩ (.step ⟨(some 59), zl (.t 58), 66, (some (57, false)), []⟩ (.step ⟨(some 60), .faddr 9 (.t 3), 67, (some (57, false)), []⟩ (.step ⟨(some 61), zl (.t 60), 68, (some (57, false)), []⟩ (.step ⟨(some 62), .arith .neq true false false (.t 59) (.t 61), 69, (some (57, false)), []⟩ (zs 63 (.pick (.t 57) (.c (.bool true)) (.t 62)) 70 (zs 64 (.move (.t 63)) 71 (.step ⟨(some 65), .faddr 10 (.t 2), 72, (some (64, false)), []⟩ (.step ⟨(some 66), zl (.t 65), 73, (some (64, false)), []⟩ (.step ⟨(some 67), .lenl (.t 66), 74, (some (64, false)), []⟩ (.step ⟨(some 68), .faddr 10 (.t 3), 75, (some (64, false)), []⟩ (.step ⟨(some 69), zl (.t 68), 76, (some (64, false)), []⟩ (.step ⟨(some 70), .lenl (.t 69), 77, (some (64, false)), []⟩ (.step ⟨(some 71), za .neq (.t 67) (.t 70), 78, (some (64, false)), []⟩ (zs 72 (.pick (.t 64) (.c (.bool true)) (.t 71)) 79 .done)))))))))))))))))))))))))))))))))))))))))))))))))))))))))))))))))))) (.cond (.t 72) (.seq (.reg (zs 4 (.move (.c (.bool false))) 80 .done)) .ret) .skip)) (.seq (.seq (.reg (zs 5 (.move (.c (.int .i64 0))) 81 .done)) (.block 0 (.loop (.seq (.seq (.reg (zs 73 (.move (.t 5)) 82 (zs 74 (.faddr 10 (.t 2)) 83 (zs 75 (zl (.t 74)) 84 (zs 76 (.lenl (.t 75)) 85 (zs 77 (za .lss (.t 73) (.t 76)) 86 .done)))))) (.cond (.t 77) .skip (.exit 0))) (.seq (.block 1 (.seq (.reg (zs 80 (.faddr 10 (.t 2)) 87 (zs 81 (zl (.t 80)) 88 (zs 82 (.move (.t 5)) 89 (zs 83 (.iaddr 11 (.t 81) (.t 82)) 90 (zs 84 (.load true 11 (.t 83)) 91 (zs 85 (.faddr 10 (.t 3)) 92 (zs 86 (zl (.t 85)) 93 (zs 87 (.move (.t 5)) 94 (zs 88 (.iaddr 11 (.t 86) (.t 87)) 95 (zs 89 (.load true 11 (.t 88)) 96 (zs 90 (zc 22 [(.t 84), (.t 89)]) 97 (zs 91 (.un .not (.t 90)) 98 .done))))))))))))) (.cond (.t 91) (.seq (.reg (zs 4 (.move (.c (.bool false))) 99 .done)) .ret) .skip))) (.reg (zs 78 (.move (.t 5)) 100 (zs 79 (za .add (.t 78) (.c (.int .i64 1))) 101 (zs 5 (.move (.t 79)) 102 .done))))))))) (.seq (.reg (zs 4 (.move (.c (.bool true))) 103 .done)) .ret)))), [.tmp 4]⟩
theorem zgA (G : Nat → V) : zaX Tryz.prog G 10 22 = some L_tomeref25_Same := by kernel_rfl
def L_tomeref25_Equal : FC :=
 ⟨43, (.seq (.reg (zs 2 (.box 27 (.t 0)) 10 (zs 3 (.box 27 (.t 1)) 11 (zs 4 (.move (.c (.bool false))) 12 .done)))) (.seq (.seq (.reg (zs 6 (.load true 11 (.t 2)) 13 (zs 7 (.load true 11 (.t 3)) 14 (zs 8 (zc 22 [(.t 6), (.t 7)]) 15 (zs 9 (.un .not (.t 8)) 16 (zs 10 (.move (.t 9)) 17 (.step ⟨(some 11), .faddr 5 (.t 2), 18, (some (10, false)), []⟩ (.step ⟨(some 12), zl (.t 11), 19, (some (10, false)), []⟩ (.step ⟨(some 13), .faddr 5 (.t 3), 20, (some (10, false)), []⟩ (.step ⟨(some 14), zl (.t 13), 21, (some (10, false)), []⟩ (.step ⟨(some 15), za .neq (.t 12) (.t 14), 22, (some (10, false)), []⟩ (zs 16 (.pick (.t 10) (.c (.bool true)) (.t 15)) 23 (zs 17 (.move (.t 16)) 24 (.step ⟨(some 18), .faddr 6 (.t 2), 25, (some (17, false)), []⟩ (.step ⟨(some 19), zl (.t 18), 26, (some (17, false)), []⟩ (.step ⟨(some 20), .faddr 6 (.t 3), 27, (some (17, false)), []⟩ (.step ⟨(some 21), zl (.t 20), 28, (some (17, false)), []⟩ (.step ⟨(some 22), za .neq (.t 19) (.t 21), 29, (some (17, false)), []⟩ (zs 23 (.pick (.t 17) (.c (.bool true)) (.t 22)) 30 .done))))))))))))))))))) (.cond (.t 23) (.seq (.reg (zs 4 (.move (.c (.bool false))) 31 .done)) .ret) .skip)) (.seq (.seq (.reg (zs 5 (.move (.c (.int .i64 0))) 32 .done)) (.block 0 (.loop (.seq (.seq (.reg (zs 24 (.move (.t 5)) 33 (zs 25 (.faddr 10 (.t 2)) 34 (zs 26 (zl (.t 25)) 35 (zs 27 (.lenl (.t 26)) 36 (zs 28 (za .lss (.t 24) (.t 27)) 37 .done)))))) (.cond (.t 28) .skip (.exit 0))) (.seq (.block 1 (.seq (.reg (zs 31 (.faddr 10 (.t 2)) 38 (zs 32 (zl (.t 31)) 39 (zs 33 (.move (.t 5)) 40 (zs 34 (.iaddr 11 (.t 32) (.t 33)) 41 (zs 35 (.load true 11 (.t 34)) 42 (zs 36 (.faddr 10 (.t 3)) 43 (zs 37 (zl (.t 36)) 44 (zs 38 (.move (.t 5)) 45 (zs 39 (.iaddr 11 (.t 37) (.t 38)) 46 (zs 40 (.load true 11 (.t 39)) 47 (zs 41 (zc 9 [(.t 35), (.t 40)]) 48 (zs 42 (.un .not (.t 41)) 49 .done))))))))))))) (.cond (.t 42) (.seq (.reg (zs 4 (.move (.c (.bool false))) 50 .done)) .ret) .skip))) (.reg (zs 29 (.move (.t 5)) 51 (zs 30 (za .add (.t 29) (.c (.int .i64 1))) 52 (zs 5 (.move (.t 30)) 53 .done))))))))) (.seq (.reg (zs 4 (.move (.c (.bool true))) 54 .done)) .ret)))), [.tmp 4]⟩
theorem zgd (G : Nat → V) : zaX Tryz.prog G 10 9 = some L_tomeref25_Equal := by kernel_rfl
end Go.Proofs.YtakegkongmnekaaGreatDoor
namespace Go.Proofs.YtakegkongmnekaaGreatDoor
open Go.RowKit
open Vm
attribute [local irreducible] wpR wpC
section
variable {G : Nat → Vm.V}
set_option maxHeartbeats 8000000 in
theorem r_Same : ∀ (n : Nat) (e f : Ex.E), Ex.deep e ≤ n → Ex.count e ≤ 900000 → Ex.count f ≤ 900000 → Ex.Sh e → Ex.Sh f → Ret Tryz.prog G 22 [.agg (expC e), .agg (expC f)] (.bool (Ex.same e f))
 | 0, .mk k o v t nm s g d a, _, h, _, _, _, _ => by rw [zdh] at h; omega
 | n + 1, .mk k o (v1, v2, v3) t nm s g d a, .mk k' o' (v1', v2', v3') t' nm' s' g' d' a', h, hc, hc', hS, hS' => by
  rw [zdh] at h
  rw [zfn] at hc hc'
  have hal := zb3 a
  have hal' := zb3 a'
  have ft : t.length ≤ 1000000 := hS.t
  have fn : nm.length ≤ 1000000 := hS.n
  have ft' : t'.length ≤ 1000000 := hS'.t
  have fn' : nm'.length ≤ 1000000 := hS'.n
  have ih : ∀ x ∈ a, ∀ y ∈ a', Ret Tryz.prog G 22 [.agg (expC x), .agg (expC y)] (.bool (Ex.same x y)) := fun x hx y hy => r_Same n x y (by have := zcy hx; omega) (by have := zb2 hx; omega) (by have := zb2 hy; omega) (hS.a x hx) (hS'.a y hy)
  clear hS hS' h
  refine za7 (zgA G) (by simp [L_tomeref25_Same]) ?_
  show wpC _ _ 0 (panK 0 _) _ (retK 0 _ _) (mkX [(0, _), (1, _)] [])
  have x0 := zx
  simp only [L_tomeref25_Same, zs, za, zl, zc, zE, expC, Ex.same]
  have F1 := ziw (G := G) ft
  have F2 := ziw (G := G) ft'
  have F3 := ziw (G := G) fn
  have F4 := ziw (G := G) fn'
  repeat' (first
   | refine ww ?_ | (refine ixl ?_; intro a ha) | (refine ixs ?_; intro c hc)
   | (refine cr (F1) ?_)
   | (refine cr (F2) ?_)
   | (refine cr (F3) ?_)
   | (refine cr (F4) ?_)
   | (refine cz ?_ ?_ <;> intro hb)
   | refine zah ?_ ?_)
  case refine_1.refine_1.refine_1.refine_1.refine_1.refine_1.refine_1.refine_1.refine_2 =>
   rename_i b1 b2 b3 b4 b5 b6 b7 b8
   have hb3 : v1 = v1' ∧ v2 = v2' ∧ v3 = v3' := by simpa using b3
   obtain ⟨rfl, rfl, rfl⟩ := hb3
   have hll : a.length = a'.length := by omega
   subst b1 b2 b6 b7 b8
   have hE : (k == k && (o == o && ((v1, v2, v3) == (v1, v2, v3) && (Lx.fold t == Lx.fold t' && (Lx.fold nm == Lx.fold nm' && (s == s && (g == g && (d == d && (a.length == a'.length && Ex.sames a a'))))))))) = Ex.sames a a' := by simp [b4, b5, hll]
   rw [hE]
   refine lp [2, 3, 5] [10, 11] (fun i : Nat => [(2, .ptr 10 0), (3, .ptr 11 0), (5, .int .i64 (i : Int))]) (fun _ => [(10, .blk 27 [.int .i64 k, .str o, .int .i64 v1, .int .i64 v2, .str v3, .str t, .str nm, .int .i64 s, .bool g, .bool d, .list (a.map fun e => .agg (expC e))]), (11, .blk 27 [.int .i64 k, .str o, .int .i64 v1, .int .i64 v2, .str v3, .str t', .str nm', .int .i64 s, .bool g, .bool d, .list (a'.map fun e => .agg (expC e))])]) (fun i => i ≤ a.length ∧ Ex.sames a a' = Ex.sames (a.drop i) (a'.drop i)) (fun i => a.length - i) 0 ⟨Nat.zero_le _, rfl⟩ ?_ lo le
   rintro i ⟨hi, hJ⟩
   by_cases hlt : i < a.length
   ·have hlt' : i < a'.length := by omega
    have hx := ih a[i] (List.getElem_mem hlt) a'[i] (List.getElem_mem hlt')
    have hd := Ex.zm1 hlt hlt'
    repeat' (first
     | refine ww ?_ | (refine ixl ?_; intro a ha) | (refine ixs ?_; intro c hc)
     | (refine cr (hx) ?_)
     | (refine cz ?_ ?_ <;> intro hb)
     | refine zah ?_ ?_)
    ·rw [hJ, hd, hb]; rfl
    ·exact ⟨i + 1, ⟨hlt, by rw [hJ, hd, hb]; rfl⟩, by omega, lo, le⟩
   ·obtain rfl : i = a.length := by omega
    repeat' (first
     | refine ww ?_ | (refine ixl ?_; intro a ha) | (refine ixs ?_; intro c hc)
     | (refine cz ?_ ?_ <;> intro hb)
     | refine zah ?_ ?_)
    rw [hJ, List.drop_length]; rfl
  all_goals (simp_all <;> (intros; first | (exfalso; omega) | (exfalso; simp_all; done)))
set_option maxHeartbeats 8000000 in
theorem zow : ∀ (n : Nat) (e f : Ex.E), Ex.deep e ≤ n → Ex.count e ≤ 900000 → Ex.count f ≤ 900000 → Ex.Sh e → Ex.Sh f → Ret Tryz.prog G 9 [.agg (expC e), .agg (expC f)] (.bool (Ex.equal e f))
 | 0, .mk k o v t nm s g d a, _, h, _, _, _, _ => by rw [zdh] at h; omega
 | n + 1, .mk k o (v1, v2, v3) t nm s g d a, .mk k' o' (v1', v2', v3') t' nm' s' g' d' a', h, hc, hc', hS, hS' => by
  have F0 := r_Same (G := G) (n + 1) _ _ h hc hc' hS hS'
  rw [zdh] at h
  rw [zfn] at hc hc'
  have hal := zb3 a
  have hal' := zb3 a'
  have ih : ∀ x ∈ a, ∀ y ∈ a', Ret Tryz.prog G 9 [.agg (expC x), .agg (expC y)] (.bool (Ex.equal x y)) := fun x hx y hy => zow n x y (by have := zcy hx; omega) (by have := zb2 hx; omega) (by have := zb2 hy; omega) (hS.a x hx) (hS'.a y hy)
  clear hS hS' h
  have hsl : Ex.same (.mk k o (v1, v2, v3) t nm s g d a) (.mk k' o' (v1', v2', v3') t' nm' s' g' d' a') = true → a.length = a'.length := fun h => by
   rw [Ex.same] at h
   simp only [Bool.and_eq_true, beq_iff_eq] at h
   exact h.2.2.2.2.2.2.2.2.1
  rw [Ex.equal]
  generalize Ex.same (.mk k o (v1, v2, v3) t nm s g d a) (.mk k' o' (v1', v2', v3') t' nm' s' g' d' a') = B at *
  refine za7 (zgd G) (by simp [L_tomeref25_Equal]) ?_
  show wpC _ _ 0 (panK 0 _) _ (retK 0 _ _) (mkX [(0, _), (1, _)] [])
  have x0 := zx
  simp only [expC] at F0
  simp only [L_tomeref25_Equal, zs, za, zl, zc, zE, expC]
  repeat' (first
   | refine ww ?_ | (refine ixl ?_; intro a ha) | (refine ixs ?_; intro c hc)
   | (refine cr (F0) ?_)
   | (refine cz ?_ ?_ <;> intro hb)
   | refine zah ?_ ?_)
  case refine_1.refine_1.refine_2 =>
   rename_i b1 b2
   have hll := hsl b1
   subst b1 b2 hb
   have hE : (true && (t == t && (nm == nm && Ex.equals a a'))) = Ex.equals a a' := by simp
   rw [hE]
   refine lp [2, 3, 5] [10, 11] (fun i : Nat => [(2, .ptr 10 0), (3, .ptr 11 0), (5, .int .i64 (i : Int))]) (fun _ => [(10, .blk 27 [.int .i64 k, .str o, .int .i64 v1, .int .i64 v2, .str v3, .str t, .str nm, .int .i64 s, .bool g, .bool d, .list (a.map fun e => .agg (expC e))]), (11, .blk 27 [.int .i64 k', .str o', .int .i64 v1', .int .i64 v2', .str v3', .str t, .str nm, .int .i64 s', .bool g', .bool d', .list (a'.map fun e => .agg (expC e))])]) (fun i => i ≤ a.length ∧ Ex.equals a a' = Ex.equals (a.drop i) (a'.drop i)) (fun i => a.length - i) 0 ⟨Nat.zero_le _, rfl⟩ ?_ lo le
   rintro i ⟨hi, hJ⟩
   by_cases hlt : i < a.length
   ·have hlt' : i < a'.length := by omega
    have hx := ih a[i] (List.getElem_mem hlt) a'[i] (List.getElem_mem hlt')
    have hd := Ex.zly hlt hlt'
    repeat' (first
     | refine ww ?_ | (refine ixl ?_; intro a ha) | (refine ixs ?_; intro c hc)
     | (refine cr (hx) ?_)
     | (refine cz ?_ ?_ <;> intro hb)
     | refine zah ?_ ?_)
    ·rw [hJ, hd, hb]; rfl
    ·exact ⟨i + 1, ⟨hlt, by rw [hJ, hd, hb]; rfl⟩, by omega, lo, le⟩
   ·obtain rfl : i = a.length := by omega
    repeat' (first
     | refine ww ?_ | (refine ixl ?_; intro a ha) | (refine ixs ?_; intro c hc)
     | (refine cz ?_ ?_ <;> intro hb)
     | refine zah ?_ ?_)
    rw [hJ, List.drop_length]; rfl
  all_goals simp_all
end
end Go.Proofs.YtakegkongmnekaaGreatDoor
namespace Go.Proofs.YtakegkongmnekaaGreatDoor
open Go.RowKit
open Vm
attribute [local irreducible] wpR wpC
def zbE : C :=
 (.reg (.step ⟨(some 11), .build [(.int .i64 0), (.str []), (.int .i64 0), (.int .i64 0), (.str []), (.str []), (.str []), (.int .i64 0), (.bool false), (.bool false), .nils] [], 20, none, []⟩
  (.step ⟨(some 12), .faddr 0 (.t 3), 21, none, []⟩
  (.alt
   (.step ⟨(some 13), .load false 1 (.t 12), 22, none, []⟩
   (.step ⟨none, .store 11 (.t 0) (.t 11), 23, none, []⟩
   (.step ⟨none, .store 1 (.t 1) (.t 13), 24, none, []⟩
   (.step ⟨none, .store 1 (.t 2) (.c (.int .i64 20)), 25, none, []⟩
   .done))))
   (.step ⟨none, .store 11 (.t 0) (.t 11), 23, none, []⟩
   (.step ⟨(some 13), .load false 1 (.t 12), 22, none, []⟩
   (.step ⟨none, .store 1 (.t 1) (.t 13), 24, none, []⟩
   (.step ⟨none, .store 1 (.t 2) (.c (.int .i64 20)), 25, none, []⟩
   .done))))))))
theorem ze5 (G : Nat → V) : compC Tryz.prog Tryz.f40.ntmps G 20 (sub [true, true, false] (zcH Tryz.f40)) = some (zbE, 26) := by kernel_rfl
theorem ta_nil (w : World) : (Instr.typeAssert .nilIface 20 59 true).run Tryz.prog w = .ok (.tuple #[.agg #[.int .i64 0], .bool false]) w := by kernel_rfl
theorem znY (n : Int) (w : World) : (Instr.typeAssert (.iface 59 (.agg #[.int .i64 n])) 20 59 true).run Tryz.prog w = .ok (.tuple #[.agg #[.int .i64 n], .bool true]) w := by kernel_rfl
set_option maxHeartbeats 2000000 in
theorem pc_idle (p q r : Addr) (w : World) :
  CallsD Tryz.prog 40 #[.pointer (some p), .pointer (some q), .pointer (some r)] .returning w fun e u' w' => e = .returned (.tuple #[]) ∧ u' = .returning ∧ w' = w.alloc (.cells #[.int .i64 0] 59) := by
 refine callsD_of_wpS Tryz.func40 rfl fun c₀ cs hu => ?_
 apply wpS_seq
 apply wpS_region
 simp [wpOpsS, go_sem, recoverD, hu, Tryz.ntmps40, Exit.thenS, ta_nil, znY]
 apply wpS_seq
 apply wpS_region
 simp [wpOpsS, go_sem, Exit.thenS]
 refine wpS_cond (t := false) (by simp [Act.eval, Array.replicate]) ?_
 simp only [Bool.false_eq_true, if_false]
 refine wpS_of_wp (wp_skip ?_)
 cases c₀
 simp_all [bodyPostS, results, Tryz.results40]
def vars3 (cs : List Vm.V) (n k : Int) : List Ent := [.blk 27 cs, .blk 3 [.int .i64 n], .blk 28 [.int .i64 k]]
def zExp : List Vm.V := [.int .i64 0, .str [], .int .i64 0, .int .i64 0, .str [], .str [], .str [], .int .i64 0, .bool false, .bool false, .nils]
theorem ptrs3 {w : World} {A : Nat → Nat → Prop} {st : Nat → Ent} {H : Nat → Value} {i j k : Nat} {vals : Array Value} (h : za3 w A st H [.ptr i 0, .ptr j 0, .ptr k 0] vals.toList) :
  ∃ p q r : Addr, vals = #[.pointer (some p), .pointer (some q), .pointer (some r)] ∧ RepT w A st H (.ptr i 0) (.pointer (some p)) ∧ RepT w A st H (.ptr j 0) (.pointer (some q)) ∧ RepT w A st H (.ptr k 0) (.pointer (some r)) := by
 obtain ⟨l⟩ := vals
 obtain ⟨u0, us, h0, h1, u1, us', h2, h3, u2, us'', h4, h5, h6⟩ := h
 dsimp only at h0
 subst h0 h2 h4 h6
 have g : ∀ {i : Nat} {u : Value}, RepT w A st H (.ptr i 0) u → ∃ p : Addr, u = .pointer (some p) := fun {i u} h => by
  rcases h with ⟨b, _, _, rfl⟩ | h
  ·exact ⟨_, rfl⟩
  ·cases h
 obtain ⟨p, rfl⟩ := g h1
 obtain ⟨q, rfl⟩ := g h3
 obtain ⟨r, rfl⟩ := g h5
 exact ⟨p, q, r, rfl, h1, h3, h5⟩
theorem zjT {G : Nat → Vm.V} {w : World} {A : Nat → Nat → Prop} {H : Nat → Value} {cs : List Vm.V} {n k : Int} (m : Mem ⟨w, A, 3, H, entF (vars3 cs n k), G, 0, []⟩ (entF (vars3 cs n k)) w H A) (q : Int) :
  ∃ H' A', Mem ⟨w, A, 3, H, entF (vars3 cs n k), G, 0, []⟩ (updL (entF (vars3 cs n k)) [(10, .blk 59 [.int .i64 q])]) (w.alloc (.cells #[.int .i64 q] 59)) H' A' ∧
   RepT (w.alloc (.cells #[.int .i64 q] 59)) A' (updL (entF (vars3 cs n k)) [(10, .blk 59 [.int .i64 q])]) H' (.ptr 10 0) (.pointer (some ⟨w.heap.size, 0, none⟩)) := by
 have hs : SimH ⟨w, A, 3, H, entF (vars3 cs n k), G, 1, []⟩ ⟨fun _ => .any, entF (vars3 cs n k)⟩ ⟨#[Go.undef], []⟩ w H A := (m.forN 1).sim rfl rfl (fun t ht => trivial)
 obtain ⟨H', A', h'⟩ := hs.newBlk #[.int .i64 q] 59 10 [.int .i64 q] (show 3 ≤ 10 by omega) rfl ⟨_, _, rfl, Or.inr (.int _ _), rfl⟩ (some 0)
 exact ⟨H', A', h'.mem.forN 0, h'.env 0 (show 0 < 1 by omega)⟩
theorem zlO (cs : List Vm.V) (n k q : Int) (env : List (Nat × Vm.V)) : updL (entF (vars3 cs n k)) [(10, .blk 59 [.int .i64 q])] = (mkX env [(0, .blk 27 cs), (1, .blk 3 [.int .i64 n]), (2, .blk 28 [.int .i64 k]), (10, .blk 59 [.int .i64 q])]).st := by
 funext id
 show (if id = 10 then _ else entF (vars3 cs n k) id) = lookE id _
 by_cases h10 : id = 10
 ·subst h10; rfl
 rw [if_neg h10]
 match id with
 | 0 => rfl
 | 1 => rfl
 | 2 => rfl
 | i + 3 =>
  have h1 : entF (vars3 cs n k) (i + 3) = .gone := zcq (show 3 ≤ i + 3 by omega)
  rw [h1]
  simp only [lookE]
  rw [if_neg (by omega), if_neg (by omega), if_neg (by omega), if_neg h10]
set_option maxHeartbeats 400000 in
theorem stop_wp {G : Nat → Vm.V} {cs : List Vm.V} {n k : Int} (hlen : cs.length = 11) (q : Int) : wpC Tryz.prog G 3 (fun _ _ => False) zbE (fun e x => e = .normal ∧ lentOf 3 x.st = vars3 zExp q 20)
  (mkX [(0, .ptr 0 0), (1, .ptr 1 0), (2, .ptr 2 0), (3, .ptr 10 0)] [(0, .blk 27 cs), (1, .blk 3 [.int .i64 n]), (2, .blk 28 [.int .i64 k]), (10, .blk 59 [.int .i64 q])]) := by
 simp only [zbE]
 have hd : cs.drop 11 = [] := by simp [hlen]
 repeat' (first
  | refine ww ?_ | (refine ixl ?_; intro a ha) | (refine ixs ?_; intro c hc)
  | (refine cz ?_ ?_ <;> intro hb)
  | refine zah ?_ ?_)
 all_goals
  refine ⟨rfl, ?_⟩
  simp (config := {maxSteps := 1000000}) [lentOf, List.range_succ, vars3, zExp, hd, ↓zaj, ↓zak, ↓zar, ↓zaq, ↓zap, ↓zas, ↓zaz, ↓zab, ↓zae, ↓zaa, ↓zac]
theorem zoB {G : Nat → Vm.V} {cs : List Vm.V} {n k : Int} (hcs : cs.all (Vm.V.on fun k => decide (k < 3)) = true) : PDef Tryz.prog G 40 [.ptr 0 0, .ptr 1 0, .ptr 2 0] (vars3 cs n k) .returning .returning (fun es => es = vars3 cs n k) := by
 intro w H A vals m hv
 obtain ⟨p, q, r, rfl, h0, h1, h2⟩ := ptrs3 hv
 obtain ⟨H', A', h', -⟩ := zjT m 0
 refine (pc_idle p q r w).mono ?_
 rintro e u' w' ⟨rfl, rfl, rfl⟩
 have hon : ∀ e ∈ vars3 cs n k, e.on (fun k => decide (k < 3)) = true := fun e he => by
  simp only [vars3, List.mem_cons, List.not_mem_nil, or_false] at he
  rcases he with rfl | rfl | rfl
  ·exact hcs
  ·rfl
  ·rfl
 refine ⟨rfl, rfl, _, H', A', rfl, rfl, hon, ?_⟩
 exact h'.drop (fun id hg => Nat.lt_of_not_le fun hle => hg (zcq hle)) (List.all_eq_true.2 hon)
theorem look4 {w : World} {A : Nat → Nat → Prop} {st : Nat → Ent} {H : Nat → Value} (v : Value) (t : Nat) {a b c d : Vm.V} : RepT w A st H (Vm.look (t + 4) [(0, a), (1, b), (2, c), (3, d)]) v := by
 have : Vm.look (t + 4) [(0, a), (1, b), (2, c), (3, d)] = Vm.V.any := by simp [Vm.look]
 rw [this]; trivial
set_option maxHeartbeats 1000000 in
theorem pd_stop {G : Nat → Vm.V} {cs : List Vm.V} {n k : Int} (hlen : cs.length = 11) (q : Int) : PDef Tryz.prog G 40 [.ptr 0 0, .ptr 1 0, .ptr 2 0] (vars3 cs n k) (.panicking [{ v := .iface 59 (.agg #[.int .i64 q]), recovered := false }])
  (.panicking [{ v := .iface 59 (.agg #[.int .i64 q]), recovered := true }]) (fun es => es = vars3 zExp q 20) := by
 intro w H A vals m hv
 obtain ⟨p1, p2, p3, rfl, h0, h1, h2⟩ := ptrs3 hv
 obtain ⟨H', A', h', h3⟩ := zjT m q
 refine callsD_of_wpS Tryz.func40 rfl fun c₀ cs' hu => ?_
 apply wpS_seq
 apply wpS_region
 simp [wpOpsS, go_sem, recoverD, hu, Tryz.ntmps40, Exit.thenS, ta_nil, znY]
 apply wpS_seq
 apply wpS_region
 simp [wpOpsS, go_sem, Exit.thenS]
 refine wpS_cond (t := true) (by simp [Act.eval, Array.replicate]) ?_
 simp only [if_true]
 refine wpS_of_wp ?_
 have hout := h'.out
 have hh : ∀ id T cs2, entF (vars3 cs n k) id = .blk T cs2 → H' id = H id := fun id T cs2 hid => (hout.blk id T cs2 hid).1
 have hm := h'.forN Tryz.f40.ntmps
 have hp : ∀ {i : Nat} {p : Addr}, i < 3 → RepT w A (entF (vars3 cs n k)) H (.ptr i 0) (.pointer (some p)) → RepT (w.alloc (.cells #[.int .i64 q] 59)) A' (updL (entF (vars3 cs n k)) [(10, .blk 59 [.int .i64 q])]) H' (.ptr i 0) (.pointer (some p)) := fun {i p} hi h => by
  rcases h with ⟨b, hb, ⟨T, cs2, hst⟩, he⟩ | h
  ·refine Or.inl ⟨b, (hh i T cs2 hst).trans hb, ⟨T, cs2, ?_⟩, he⟩
   rw [znO _ _ (fun p hp => by simp at hp; subst hp; dsimp only; omega)]
   exact hst
  ·cases h
 rw [zlO cs n k q [(0, .ptr 0 0), (1, .ptr 1 0), (2, .ptr 2 0), (3, .ptr 10 0)]] at hm h3
 have hp0 := hp (by omega) h0
 have hp1 := hp (by omega) h1
 have hp2 := hp (by omega) h2
 rw [zlO cs n k q [(0, .ptr 0 0), (1, .ptr 1 0), (2, .ptr 2 0), (3, .ptr 10 0)]] at hp0 hp1 hp2
 show (sub [true, true, false] (zcH Tryz.f40)).wp Tryz.prog _ _ _
 refine Code.wp_mono ?_ (zjH (c := ⟨w, A, 3, H, entF (vars3 cs n k), G, Tryz.f40.ntmps, []⟩) (x := mkX [(0, .ptr 0 0), (1, .ptr 1 0), (2, .ptr 2 0), (3, .ptr 10 0)] [(0, .blk 27 cs), (1, .blk 3 [.int .i64 n]), (2, .blk 28 [.int .i64 k]), (10, .blk 59 [.int .i64 q])]) (Kp := fun _ _ => False) (Q := fun e x => e = .normal ∧ lentOf 3 x.st = vars3 zExp q 20) (fun _ _ _ _ h => h) (fun id hg => Nat.lt_of_not_le fun hle => hg (zcq hle)) (show 3 ≤ 20 by omega) (ze5 G) (hm.sim ?_ rfl ?_) ?_)
 ·rintro (_ | i | _ | _ | ch | _) a' w' hq
  ·obtain ⟨x, H2, A2, hx, -, hq⟩ := hq
   have hon : ∀ e ∈ vars3 zExp q 20, e.on (fun k => decide (k < 3)) = true := fun e he => by
    simp only [vars3, List.mem_cons, List.not_mem_nil, or_false] at he
    rcases he with rfl | rfl | rfl <;> rfl
   have hmm := hx.mem.drop (fun id hg => Nat.lt_of_not_le fun hle => hg (zcq hle)) (by rw [zeF]; exact List.all_eq_true.2 (by rw [hq]; exact hon))
   rw [hq] at hmm
   cases c₀
   simp [bodyPostS, results, Tryz.results40]
   exact ⟨hx.df, rfl, hon, _, _, hmm.forN 0⟩
  ·obtain ⟨x, H2, A2, hx, hq, -⟩ := hq
   cases hq
  ·exact hq.elim
  ·obtain ⟨x, H2, A2, hx, hq, -⟩ := hq
   cases hq
  ·obtain ⟨x, H2, A2, v, xv, -, -, -, hq⟩ := hq
   exact hq.elim
  ·exact hq.elim
 ·simp
 ·intro t ht
  match t with
  | 0 =>
   rw [show (_ : Array Value).getD 0 Go.undef = .pointer (some p1) by simp]
   exact hp0
  | 1 =>
   rw [show (_ : Array Value).getD 1 Go.undef = .pointer (some p2) by simp]
   exact hp1
  | 2 =>
   rw [show (_ : Array Value).getD 2 Go.undef = .pointer (some p3) by simp]
   exact hp2
  | 3 =>
   rw [show (_ : Array Value).getD 3 Go.undef = .pointer (some ⟨w.heap.size, 0, none⟩) by simp]
   exact h3
  | t + 4 => exact look4 (a := .ptr 0 0) (b := .ptr 1 0) (c := .ptr 2 0) (d := .ptr 10 0) _ t
 ·show wpC Tryz.prog G 3 (fun _ _ => False) zbE (fun e x => e = .normal ∧ lentOf 3 x.st = vars3 zExp q 20) _
  exact stop_wp hlen q
end Go.Proofs.YtakegkongmnekaaGreatDoor
namespace Go.Proofs.YtakegkongmnekaaGreatDoor
open Go.RowKit
open Vm
attribute [local irreducible] wpR wpC
def zdj : C :=
 (.reg (.step ⟨(some 4), .alloc 27 [(.int .i64 0), (.str []), (.int .i64 0), (.int .i64 0), (.str []), (.str []), (.str []), (.int .i64 0), (.bool false), (.bool false), .nils], 10, none, []⟩
  (.step ⟨(some 5), .alloc 3 [(.int .i64 0)], 11, none, []⟩
  (.step ⟨(some 6), .alloc 28 [(.int .i64 0)], 12, none, []⟩
  .done))))
theorem zh0 (G : Nat → V) : compC Tryz.prog Tryz.f19.ntmps G 10 (sub [false] (zcH Tryz.f19)) = some (zdj, 13) := by kernel_rfl
def zcZ : C :=
 (.seq (.reg (.step ⟨(some 8), .move (.t 1), 20, none, []⟩
   (.step ⟨(some 9), .arith .lss false false false (.t 8) (.c (.int .i64 0)), 21, none, []⟩
   (.step ⟨(some 10), .move (.t 9), 22, none, []⟩
   (.step ⟨(some 11), .move (.t 1), 23, (some (10, false)), []⟩
   (.step ⟨(some 12), .move (.t 0), 24, (some (10, false)), []⟩
   (.step ⟨(some 13), .lenl (.t 12), 25, (some (10, false)), []⟩
   (.step ⟨(some 14), .arith .gtr false false false (.t 11) (.t 13), 26, (some (10, false)), []⟩
   (.step ⟨(some 15), .pick (.t 10) (.c (.bool true)) (.t 14), 27, none, []⟩
   .done)))))))))
 (.cond (.t 15)
  (.seq (.reg (.step ⟨(some 16), .build [(.int .i64 0), (.str []), (.int .i64 0), (.int .i64 0), (.str []), (.str []), (.str []), (.int .i64 0), (.bool false), (.bool false), .nils] [], 28, none, []⟩
    (.step ⟨(some 17), .move (.t 1), 29, none, []⟩
    (.step ⟨none, .store 11 (.t 4) (.t 16), 30, none, []⟩
    (.step ⟨none, .store 1 (.t 5) (.t 17), 31, none, []⟩
    (.step ⟨none, .store 1 (.t 6) (.c (.int .i64 20)), 32, none, []⟩
    .done))))))
  .ret)
  .skip))
theorem zhk (G : Nat → V) : compC Tryz.prog Tryz.f19.ntmps G 20 (sub [true, false] (zcH Tryz.f19)) = some (zcZ, 33) := by kernel_rfl
def zcs : C :=
 (.reg (.step ⟨(some 19), .move (.t 0), 50, none, []⟩
  (.step ⟨(some 20), .move (.t 1), 51, none, []⟩
  (.step ⟨(some 21), .build [.nils, (.int .i64 0)] [(0, 1, (.t 19)), (1, 1, (.t 20))], 52, none, []⟩
  (.step ⟨(some 22), .box 63 (.t 21), 53, none, []⟩
  (.step ⟨(some 7), .move (.t 22), 54, none, []⟩
  .done))))))
theorem zfM (G : Nat → V) : compC Tryz.prog Tryz.f19.ntmps G 50 (sub [true, true, true, false] (zcH Tryz.f19)) = some (zcs, 55) := by kernel_rfl
def zcd : C :=
 (.seq (.seq (.reg (.step ⟨(some 25), .load true 11 (.t 4), 80, none, []⟩
    (.step ⟨(some 26), .call true (.c (.fn 16 [] [])) [(.t 25)], 81, none, []⟩
    (.step ⟨(some 27), .arith .gtr false false false (.t 26) (.c (.int .i64 24)), 82, none, []⟩
    .done))))
  (.cond (.t 27)
   (.seq (.reg (.step ⟨(some 28), .build [(.int .i64 0), (.str []), (.int .i64 0), (.int .i64 0), (.str []), (.str []), (.str []), (.int .i64 0), (.bool false), (.bool false), .nils] [], 83, none, []⟩
     (.step ⟨(some 29), .move (.t 1), 84, none, []⟩
     (.step ⟨none, .store 11 (.t 4) (.t 28), 85, none, []⟩
     (.step ⟨none, .store 1 (.t 5) (.t 29), 86, none, []⟩
     (.step ⟨none, .store 1 (.t 6) (.c (.int .i64 12)), 87, none, []⟩
     .done))))))
   .ret)
   .skip))
 (.seq (.reg (.step ⟨(some 30), .load true 11 (.t 4), 88, none, []⟩
   (.step ⟨(some 31), .move (.t 7), 89, none, []⟩
   (.step ⟨(some 32), .chk (.t 31), 90, none, []⟩
   (.step ⟨(some 33), .faddr 1 (.t 32), 91, none, []⟩
   (.alt
    (.step ⟨(some 34), .load false 1 (.t 33), 92, none, []⟩
    (.step ⟨none, .store 11 (.t 4) (.t 30), 93, none, []⟩
    (.step ⟨none, .store 1 (.t 5) (.t 34), 94, none, []⟩
    (.step ⟨none, .store 1 (.t 6) (.c (.int .i64 0)), 95, none, []⟩
    .done))))
    (.step ⟨none, .store 11 (.t 4) (.t 30), 93, none, []⟩
    (.step ⟨(some 34), .load false 1 (.t 33), 92, none, []⟩
    (.step ⟨none, .store 1 (.t 5) (.t 34), 94, none, []⟩
    (.step ⟨none, .store 1 (.t 6) (.c (.int .i64 0)), 95, none, []⟩
    .done))))))))))
 .ret))
theorem ze4 (G : Nat → V) : compC Tryz.prog Tryz.f19.ntmps G 80 (sub [true, true, true, true, true] (zcH Tryz.f19)) = some (zcd, 96) := by kernel_rfl
section
variable {G : Nat → Vm.V} {L : List Lx.TA}
def X1 (L : List Lx.TA) (p : Nat) : X := mkX [(0, .list (L.map tokM)), (1, .int .i64 (p : Int)), (4, .ptr 10 0), (5, .ptr 11 0), (6, .ptr 12 0)] [(10, .blk 27 zExp), (11, .blk 3 [.int .i64 0]), (12, .blk 28 [.int .i64 0])]
def X2 (L : List Lx.TA) (p : Nat) : X := mkX [(0, .list (L.map tokM)), (1, .int .i64 (p : Int)), (4, .ptr 0 0), (5, .ptr 1 0), (6, .ptr 2 0)] [(0, .blk 27 zExp), (1, .blk 3 [.int .i64 0]), (2, .blk 28 [.int .i64 0])]
def X3 (L : List Lx.TA) (p q : Nat) (cs : List Vm.V) : X := mkX [(1, .int .i64 (p : Int)), (4, .ptr 0 0), (5, .ptr 1 0), (6, .ptr 2 0), (7, .ptr 53 0)] [(0, .blk 27 cs), (1, .blk 3 [.int .i64 0]), (2, .blk 28 [.int .i64 0]), (53, prsE L q)]
def X4 (cs : List Vm.V) (n k : Int) : X := mkX [(4, .ptr 0 0), (5, .ptr 1 0), (6, .ptr 2 0)] [(0, .blk 27 cs), (1, .blk 3 [.int .i64 n]), (2, .blk 28 [.int .i64 k])]
theorem p_l (p : Nat) : wpC Tryz.prog G 0 (fun _ _ => False) zdj (fun e y => e = .normal ∧ (okScrub 0 [0, 1, 4, 5, 6] [10, 11, 12] y ∧ scrub [0, 1, 4, 5, 6] [10, 11, 12] y = X1 L p)) (mkX [(0, .list (L.map tokM)), (1, .int .i64 (p : Int))] []) := by
 simp only [zdj, X1, zExp]
 repeat' (first
  | refine ww ?_ | (refine ixl ?_; intro a ha) | (refine ixs ?_; intro c hc)
  | (refine cz ?_ ?_ <;> intro hb)
  | refine zah ?_ ?_)
 exact ⟨rfl, lo, le⟩
theorem p_rl (p : Nat) (hp : p ≤ L.length) : wpC Tryz.prog G 0 (fun _ _ => False) zcZ (fun e y => e = .normal ∧ (okScrub 0 [0, 1, 4, 5, 6] [10, 11, 12] y ∧ scrub [0, 1, 4, 5, 6] [10, 11, 12] y = X1 L p)) (X1 L p) := by
 have h1 : ((L.length : Int) < (p : Int)) = False := eq_false (by omega)
 have h2 : (L.length < p) = False := eq_false (by omega)
 simp only [zcZ, X1, zExp]
 repeat' (first
  | refine ww ?_ | (refine ixl ?_; intro a ha) | (refine ixs ?_; intro c hc)
  | (refine cz ?_ ?_ <;> intro hb)
  | refine zah ?_ ?_)
 all_goals exact ⟨rfl, lo, le⟩
theorem p_rrrl (p : Nat) : wpC Tryz.prog G 3 (fun _ _ => False) zcs (fun e y => e = .normal ∧ (okScrub 3 [1, 4, 5, 6, 7] [0, 1, 2, 53] y ∧ scrub [1, 4, 5, 6, 7] [0, 1, 2, 53] y = X3 L p p zExp)) (X2 L p) := by
 simp only [zcs, X2, X3, zExp, prsE]
 repeat' (first
  | refine ww ?_ | (refine ixl ?_; intro a ha) | (refine ixs ?_; intro c hc)
  | (refine cz ?_ ?_ <;> intro hb)
  | refine zah ?_ ?_)
 exact ⟨rfl, lo, le⟩
set_option maxHeartbeats 1000000 in
theorem p_rest (p q : Nat) (e : Ex.E) (hc : Ex.count e ≤ 900000) : wpC Tryz.prog G 3 (fun _ _ => False) zcd (fun e' y => e' = .ret ∧ (okScrub 3 [4, 5, 6] [0, 1, 2] y ∧ scrub [4, 5, 6] [0, 1, 2] y = if 24 < Ex.deep e then X4 zExp p 12 else X4 (expC e) q 0)) (X3 L p q (expC e)) := by
 have hd := m_Deep (G := G) _ e (Nat.le_refl _) hc
 have x0 := zx
 simp only [zcd, X3, prsE]
 by_cases h24 : 24 < Ex.deep e
 ·rw [if_pos h24]
  simp only [X4, zExp]
  repeat' (first
   | refine ww ?_ | (refine ixl ?_; intro a ha) | (refine ixs ?_; intro c hc)
   | (refine cr (hd) ?_)
   | (refine cz ?_ ?_ <;> intro hb)
   | refine zah ?_ ?_)
  all_goals first | (exfalso; omega) | exact ⟨rfl, lo, le⟩
 ·rw [if_neg h24]
  simp only [X4]
  repeat' (first
   | refine ww ?_ | (refine ixl ?_; intro a ha) | (refine ixs ?_; intro c hc)
   | (refine cr (hd) ?_)
   | (refine cz ?_ ?_ <;> intro hb)
   | refine zah ?_ ?_)
  all_goals first | (exfalso; omega) | exact ⟨rfl, lo, le⟩
theorem znb : zcH Tryz.f19 = .seq (sub [false] (zcH Tryz.f19)) (.seq (sub [true, false] (zcH Tryz.f19)) (.seq (sub [true, true, false] (zcH Tryz.f19)) (.seq (sub [true, true, true, false] (zcH Tryz.f19))
  (.seq (sub [true, true, true, true, false] (zcH Tryz.f19)) (sub [true, true, true, true, true] (zcH Tryz.f19)))))) := by kernel_rfl
theorem zlq : ∃ (id : Nat) (o1 o2 : Oper) (cl : Call), sub [true, true, false] (zcH Tryz.f19) = .region id #[o1, o2] false ∧ o1.dst = some 18 ∧ o1.op = .makeFunc (.func 40) #[] #[.tmp 4, .tmp 5, .tmp 6] ∧ o1.guard = none ∧ o2.dst = none ∧ o2.op = .defer cl ∧ o2.guard = none ∧ cl.callee = .value (.tmp 18) ∧ cl.args = #[] :=
 ⟨_, _, _, _, rfl, rfl, rfl, rfl, rfl, rfl, rfl, rfl, rfl⟩
theorem zna : ∃ (id : Nat) (o1 o2 o3 : Oper) (cl : Call), sub [true, true, true, true, false] (zcH Tryz.f19) = .region id #[o1, o2, o3] false ∧ o1.dst = some 23 ∧ o1.op = .move (.tmp 7) ∧ o1.guard = none ∧ o2.dst = some 24 ∧ o2.op = .call cl ∧ cl.callee = .value (.func 41) ∧ cl.args = #[.tmp 23] ∧ o2.guard = none ∧
  o3.dst = none ∧ o3.guard = none ∧ ∀ G, compM Tryz.prog Tryz.f19.ntmps G o3.op = some (.store 11 (.t 4) (.t 24)) :=
 ⟨_, _, _, _, _, rfl, rfl, rfl, rfl, rfl, rfl, rfl, rfl, rfl, rfl, rfl, fun G => by kernel_rfl⟩
theorem zoD : resT Tryz.prog Tryz.f19.ntmps Tryz.f19.results.toList = some [.cell 4 true 11, .cell 5 false 1, .cell 6 false 1] := by kernel_rfl
end
end Go.Proofs.YtakegkongmnekaaGreatDoor
namespace Go.Proofs.YtakegkongmnekaaGreatDoor
open Go.RowKit
open Vm
attribute [local irreducible] wpR wpC
theorem zmF (ρ : Nat → Nat) (e : Ex.E) : (expC e).map (V.ren ρ) = expC e := by cases e; simp [expC, V.ren]
theorem zgF (ρ : Nat → Nat) : zExp.map (V.ren ρ) = zExp := rfl
section
variable {G : Nat → Vm.V} {L : List Lx.TA}
theorem zgI {cs : List Vm.V} {n k : Int} (hcs : cs.all (V.on fun k => decide (k < 3)) = true) : ∀ e ∈ vars3 cs n k, e.on (fun k => decide (k < 3)) = true := fun e he => by
 simp only [vars3, List.mem_cons, List.not_mem_nil, or_false] at he
 rcases he with rfl | rfl | rfl
 ·exact hcs
 ·rfl
 ·rfl
theorem znM {cs : List Vm.V} {n k : Int} : ∀ id, entF (vars3 cs n k) id ≠ .gone → id < 3 := fun id hg => Nat.lt_of_not_le fun hle => hg (zcq hle)
theorem x2_st (L : List Lx.TA) (p : Nat) : (X2 L p).st = entF (vars3 zExp 0 0) := by
 funext id
 show lookE id _ = _
 match id with
 | 0 => rfl
 | 1 => rfl
 | 2 => rfl
 | i + 3 =>
  have h1 : entF (vars3 zExp 0 0) (i + 3) = .gone := zcq (show 3 ≤ i + 3 by omega)
  rw [h1]
  simp only [lookE]
  rw [if_neg (by omega), if_neg (by omega), if_neg (by omega)]
theorem zlK (L : List Lx.TA) (p : Nat) : Lends ((X1 L p).put (some 18) .any []).st [10, 11, 12] (vars3 zExp 0 0) := by
 refine ⟨by decide, rfl, fun k hk => ?_, fun k hk => ?_, zgI rfl⟩
 ·match k, hk with
  | 0, _ => rfl
  | 1, _ => rfl
  | 2, _ => rfl
 ·match k, hk with
  | 0, _ => exact fun h => by cases h
  | 1, _ => exact fun h => by cases h
  | 2, _ => exact fun h => by cases h
theorem x4_lends {cs : List Vm.V} {n k : Int} (hcs : cs.all (V.on fun k => decide (k < 3)) = true) (hren : ∀ ρ, cs.map (V.ren ρ) = cs) : Lends (X4 cs n k).st [0, 1, 2] (vars3 cs n k) := by
 refine ⟨by decide, rfl, fun j hj => ?_, fun j hj => ?_, zgI hcs⟩
 ·match j, hj with
  | 0, _ =>
   show Ent.blk _ cs = Ent.blk _ (cs.map _)
   rw [hren]
  | 1, _ => rfl
  | 2, _ => rfl
 ·match j, hj with
  | 0, _ => exact fun h => by cases h
  | 1, _ => exact fun h => by cases h
  | 2, _ => exact fun h => by cases h
theorem x4_lent (cs : List Vm.V) (n k : Int) : lentOf 3 (X4 cs n k).st = vars3 cs n k := rfl
theorem x4_outZ (n k : Int) : outV [.cell 4 true 11, .cell 5 false 1, .cell 6 false 1] (X4 zExp n k) = .tup [.agg (expC Ex.e0), .int .i64 n, .int .i64 k] := by
 simp (config := {maxSteps := 1000000}) (disch := omega) [zch, zdc, X4, zExp, expC, Ex.e0, Ex.v0, semM, zau, one1, zaw, strV, zaJ, zaf, zag, bnd, zaK, zaI, norm0, zbc, res, V.size, V.cells, V.isAgg, V.one, V.data, V.storable, Ent.isGone, V.simple, wrap_i64, ↓zaj, ↓zak, ↓zar, ↓zaq, ↓zap, ↓zas, ↓zaz, ↓zab, ↓zae, ↓zaa, ↓zac, ↓ev_t, ↓ev_c]
 exact ⟨rfl, rfl⟩
theorem znE (e : Ex.E) (n k : Int) : outV [.cell 4 true 11, .cell 5 false 1, .cell 6 false 1] (X4 (expC e) n k) = .tup [.agg (expC e), .int .i64 n, .int .i64 k] := by
 have x0 := zx
 simp (config := {maxSteps := 1000000}) (disch := omega) [zch, zdc, X4, semM, zau, one1, zaw, strV, zaJ, zaf, zag, bnd, zaK, zaI, norm0, zbc, res, V.size, V.cells, V.isAgg, V.one, V.data, V.storable, Ent.isGone, V.simple, wrap_i64, ↓zaj, ↓zak, ↓zar, ↓zaq, ↓zap, ↓zas, ↓zaz, ↓zab, ↓zae, ↓zaa, ↓zac, ↓ev_t, ↓ev_c, x0]
 exact ⟨rfl, rfl⟩
theorem out_ok (cs : List Vm.V) (n k : Int) {v : Vm.V} (h : outV [.cell 4 true 11, .cell 5 false 1, .cell 6 false 1] (X4 cs n k) = .tup [.agg v.cells, .int .i64 n, .int .i64 k]) : zev [.cell 4 true 11, .cell 5 false 1, .cell 6 false 1] (X4 cs n k) = true := by
 rw [zch] at h
 rw [zcU]
 simp only [Vm.V.tup.injEq, List.cons.injEq, and_true] at h
 rw [h.1, h.2.1, h.2.2]
 rfl
theorem zlm {w : World} {A : Nat → Nat → Prop} {st st' : Nat → Ent} {H H' : Nat → Value} {i j : Nat} {v : Value} (h : RepT w A st H (.ptr i 0) v) (hH : H' j = H i) (hst : ∃ T cs, st' j = .blk T cs) : RepT w A st' H' (.ptr j 0) v := by
 rcases h with ⟨b, hb, _, he⟩ | h
 ·exact Or.inl ⟨b, hH.trans hb, hst, he⟩
 ·cases h
theorem x4_put (cs cs' : List Vm.V) (n k n' k' : Int) (hren : ∀ ρ, cs'.map (V.ren ρ) = cs') : (X4 cs n k).put none .undef (lendU [0, 1, 2] (vars3 cs' n' k')) = X4 cs' n' k' := by
 have hU : lendU [0, 1, 2] (vars3 cs' n' k') = [(0, .blk 27 cs'), (1, .blk 3 [.int .i64 n']), (2, .blk 28 [.int .i64 k'])] := by
  show [(0, Ent.blk _ (cs'.map _)), (1, Ent.blk _ _), (2, Ent.blk _ _)] = _
  rw [hren]
  rfl
 rw [hU]
 refine congrArg (X.mk _) (funext fun id => ?_)
 show (if id = 2 then _ else if id = 1 then _ else if id = 0 then _ else lookE id _) = lookE id _
 match id with
 | 0 => rfl
 | 1 => rfl
 | 2 => rfl
 | i + 3 =>
  rw [if_neg (by omega), if_neg (by omega), if_neg (by omega)]
  simp only [lookE]
  rw [if_neg (by omega), if_neg (by omega), if_neg (by omega), if_neg (by omega), if_neg (by omega), if_neg (by omega)]
theorem x3_lends (L : List Lx.TA) (p q : Nat) (cs : List Vm.V) : Lends ((X3 L p q cs).put (some 23) (.ptr 53 0) []).st [53] [prsE L q] := by
 refine ⟨by decide, rfl, fun k hk => ?_, fun k hk => ?_, fun e he => ?_⟩
 ·match k, hk with
  | 0, _ => rfl
 ·match k, hk with
  | 0, _ => exact fun h => by cases h
 ·simp only [List.mem_cons, List.not_mem_nil, or_false] at he
  subst he
  rfl
theorem inv3 (vs : Array Value) (w : World) : (invoke (.fn (.func 40) vs) #[]).run Tryz.prog w = .ok (.enter 40 vs) w := by
 simp [invoke, zd1 (show zfl Tryz.prog 40 = true by kernel_rfl)]
theorem lend53 (L : List Lx.TA) (q : Nat) : lendU [53] [prsE L q] = [(53, prsE L q)] := rfl
theorem x3_store (L : List Lx.TA) (p q q' : Nat) (e : Ex.E) : semM 90 (.store 11 (.t 4) (.t 24)) (((X3 L p q zExp).put (some 23) (.ptr 53 0) []).put (some 24) (.agg (expC e)) [(53, prsE L q')]).env (((X3 L p q zExp).put (some 23) (.ptr 53 0) []).put (some 24) (.agg (expC e)) [(53, prsE L q')]).st = some (.undef, [(0, .blk 27 (expC e))]) := by
 have x0 := zx
 simp (config := {maxSteps := 1000000}) (disch := omega) [X3, zExp, semM, zau, one1, zaw, strV, zaJ, zaf, zag, bnd, zaK, zaI, norm0, zbc, res, V.size, V.cells, V.isAgg, V.one, V.data, V.storable, Ent.isGone, V.simple, wrap_i64, ↓zaj, ↓zak, ↓zar, ↓zaq, ↓zap, ↓zas, ↓zaz, ↓zab, ↓zae, ↓zaa, ↓zac, ↓ev_t, ↓ev_c, x0]
theorem x3_next (L : List Lx.TA) (p q q' : Nat) (e : Ex.E) :
  okScrub 3 [1, 4, 5, 6, 7] [0, 1, 2, 53] ((((X3 L p q zExp).put (some 23) (.ptr 53 0) []).put (some 24) (.agg (expC e)) [(53, prsE L q')]).put none .undef [(0, .blk 27 (expC e))]) ∧
  scrub [1, 4, 5, 6, 7] [0, 1, 2, 53] ((((X3 L p q zExp).put (some 23) (.ptr 53 0) []).put (some 24) (.agg (expC e)) [(53, prsE L q')]).put none .undef [(0, .blk 27 (expC e))]) = X3 L p q' (expC e) := by
 have x0 := zx
 simp only [X3, zExp, prsE]
 exact ⟨lo, le⟩
theorem x3_stop (L : List Lx.TA) (p q q' : Nat) :
  okScrub 3 [4, 5, 6] [0, 1, 2] (((X3 L p q zExp).put (some 23) (.ptr 53 0) []).put none .undef [(53, prsE L q')]) ∧
  scrub [4, 5, 6] [0, 1, 2] (((X3 L p q zExp).put (some 23) (.ptr 53 0) []).put none .undef [(53, prsE L q')]) = X4 zExp 0 0 := by
 simp only [X3, X4, zExp, prsE]
 exact ⟨lo, le⟩
theorem stop_rep {w : World} {A : Nat → Nat → Prop} {q : Nat} {xv : Value} (h : RepV w A (ziY q) xv) : xv = .iface 59 (.agg #[.int .i64 (q : Int)]) := by
 unfold ziY at h
 cases h with
 | iface _ _ x h =>
  cases h with
  | agg _ vs h =>
   cases h with
   | cons _ _ v vs h1 h2 =>
    cases h1
    cases h2
    rfl
set_option maxHeartbeats 4000000 in
theorem m_Parse (hL : L.length ≤ 999999) (hT : Good L) {p m : Nat} {r : Ex.R} (hp : p ≤ L.length) (hr : Ex.run (L.map (·.1)) m (.lev 0) p = some r) (hc : ∀ e q, r = .ok [e] q → Ex.count e ≤ 900000) :
  Ret Tryz.prog G 19 [.list (L.map tokM), .int .i64 (p : Int)] (parV p r) := by
 refine zkp (fn := Tryz.f19) (code := zcH Tryz.f19) (R := fun o => o = .ret (parV p r)) Tryz.func19 (by decide) rfl (show 2 ≤ Tryz.f19.ntmps by decide) fun w H A a h => ?_
 have hE0 : ∀ id, (entF [] : Nat → Ent) id ≠ .gone → id < 0 := fun id hg => absurd rfl hg
 rw [znb]
 refine wp_seq (ziO hE0 (Nat.zero_le _) (zh0 G) h (p_l p) ?_)
 rintro y1 a1 w1 H1 A1 h1 ⟨ok1, sc1⟩
 replace h1 := h1.scrub hE0 ok1
 rw [sc1] at h1
 refine wp_seq (ziO hE0 (Nat.zero_le _) (zhk G) h1 (p_rl p hp) ?_)
 rintro y2 a2 w2 H2 A2 h2 ⟨ok2, sc2⟩
 replace h2 := h2.scrub hE0 ok2
 rw [sc2] at h2
 obtain ⟨id, o1, o2, cl, hcode, g1, g2, g3, g4, g5, g6, g7, g8⟩ := zlq
 have hN : Tryz.f19.ntmps = 35 := rfl
 refine wp_seq (wp_defer hcode g1 g2 g3 g4 g5 g6 g7 g8 (by rw [h2.tm]; exact (show 18 < Tryz.f19.ntmps by decide)) ?_)
 have h2' := h2.putv (some 18) .any (.func (.func 40) #[] ((#[.tmp 4, .tmp 5, .tmp 6] : Array Operand).map a2.eval)) trivial
 have hm := h2'.start (zlK L p)
 have hdf := h2.df
 have hl1 := zlK L p
 generalize hD : ({ target := .fn (.func 40) ((#[.tmp 4, .tmp 5, .tmp 6] : Array Operand).map a2.eval), args := #[] } : Deferred) = d
 have h3 : SimH ⟨w2, A2, 3, fun k => H2 (nameOf [10, 11, 12] k), entF (vars3 zExp 0 0), G, Tryz.f19.ntmps, [d]⟩ (X2 L p) { a2.put (some 18) (.func (.func 40) #[] ((#[.tmp 4, .tmp 5, .tmp 6] : Array Operand).map a2.eval)) with defers := d :: a2.defers } w2 (fun k => H2 (nameOf [10, 11, 12] k)) A2 := by
  have hm2 : Mem ⟨w2, A2, 3, fun k => H2 (nameOf [10, 11, 12] k), entF (vars3 zExp 0 0), G, 0, []⟩ (X2 L p).st w2 (fun k => H2 (nameOf [10, 11, 12] k)) A2 := by rw [x2_st]; exact hm
  refine Mem.sim (a := { a2.put (some 18) (.func (.func 40) #[] ((#[.tmp 4, .tmp 5, .tmp 6] : Array Operand).map a2.eval)) with defers := d :: a2.defers }) (hm2.forD Tryz.f19.ntmps [d]) h2'.tm (by show d :: a2.defers = [d]; rw [hdf]) fun t ht => ?_
  have he := h2'.env t ht
  show RepT _ _ _ _ (Vm.look t _) _
  by_cases t0 : t = 0
  ·subst t0; exact (he.data rfl).toT
  by_cases t1 : t = 1
  ·subst t1; exact (he.data rfl).toT
  by_cases t4 : t = 4
  ·subst t4; exact zlm he rfl ⟨_, _, rfl⟩
  by_cases t5 : t = 5
  ·subst t5; exact zlm he rfl ⟨_, _, rfl⟩
  by_cases t6 : t = 6
  ·subst t6; exact zlm he rfl ⟨_, _, rfl⟩
  ·simp only [Vm.look, if_neg t0, if_neg t1, if_neg t4, if_neg t5, if_neg t6]
   trivial
 have hcap : ∀ (st : Nat → Ent) (H3 : Nat → Value) (w3 : World) (A3 : Nat → Nat → Prop), (∀ i, i < 3 → H3 i = H2 (nameOf [10, 11, 12] i)) → (∀ i, i < 3 → ∃ T cs, st i = .blk T cs) → za3 w3 A3 st H3 [.ptr 0 0, .ptr 1 0, .ptr 2 0] ((#[.tmp 4, .tmp 5, .tmp 6] : Array Operand).map a2.eval).toList := fun st H3 w3 A3 hH hst => by
  have c4 := h2.env 4 (show 4 < Tryz.f19.ntmps by decide)
  have c5 := h2.env 5 (show 5 < Tryz.f19.ntmps by decide)
  have c6 := h2.env 6 (show 6 < Tryz.f19.ntmps by decide)
  have g : ∀ {i j : Nat} {v : Value}, RepT w2 A2 (X1 L p).st H2 (.ptr i 0) v → H3 j = H2 i → (∃ T cs, st j = .blk T cs) → RepT w3 A3 st H3 (.ptr j 0) v := fun {i j v} h hH hst => by
   rcases h with ⟨b, hb, _, he⟩ | h
   ·exact Or.inl ⟨b, hH.trans hb, hst, he⟩
   ·cases h
  have hls : ((#[.tmp 4, .tmp 5, .tmp 6] : Array Operand).map a2.eval).toList = [a2.tmps.getD 4 Go.undef, a2.tmps.getD 5 Go.undef, a2.tmps.getD 6 Go.undef] := by
   rw [Array.toList_map]
   rfl
  rw [hls]
  exact ⟨_, _, rfl, g c4 (hH 0 (by omega)) (hst 0 (by omega)), _, _, rfl, g c5 (hH 1 (by omega)) (hst 1 (by omega)), _, _, rfl, g c6 (hH 2 (by omega)) (hst 2 (by omega)), rfl⟩
 have leave : ∀ (cs cs' : List Vm.V) (n k n' k' : Int) (a6 : Act) (w6 : World) (H6 : Nat → Value) (A6 : Nat → Nat → Prop) (u u' : FrameMode), SimH ⟨w2, A2, 3, fun k => H2 (nameOf [10, 11, 12] k), entF (vars3 zExp 0 0), G, Tryz.f19.ntmps, [d]⟩ (X4 cs n k) a6 w6 H6 A6 →
   cs.all (V.on fun k => decide (k < 3)) = true → (∀ ρ, cs.map (V.ren ρ) = cs) → cs'.all (V.on fun k => decide (k < 3)) = true → (∀ ρ, cs'.map (V.ren ρ) = cs') → PDef Tryz.prog G 40 [.ptr 0 0, .ptr 1 0, .ptr 2 0] (vars3 cs n k) u u' (fun es => es = vars3 cs' n' k') → u ≠ .run → settle u' = .returning →
   outV [.cell 4 true 11, .cell 5 false 1, .cell 6 false 1] (X4 cs' n' k') = parV p r → zev [.cell 4 true 11, .cell 5 false 1, .cell 6 false 1] (X4 cs' n' k') = true → Go.Leaves Tryz.prog Tryz.f19 a6.tmps (Fin0 w A G H fun o => o = .ret (parV p r)) [d] u w6 := by
  intro cs cs' n k n' k' a6 w6 H6 A6 u u' h6 hon hren hon' hren' hpd hu hset hout hok
  rw [← hD]
  have hHi : ∀ i, i < 3 → H6 i = H2 (nameOf [10, 11, 12] i) := fun i hi => by
   match i, hi with
   | 0, _ => exact (h6.out.blk 0 _ _ rfl).1
   | 1, _ => exact (h6.out.blk 1 _ _ rfl).1
   | 2, _ => exact (h6.out.blk 2 _ _ rfl).1
  have hsti : ∀ i, i < 3 → ∃ T cs2, (X4 cs n k).st i = .blk T cs2 := fun i hi => by
   match i, hi with
   | 0, _ => exact ⟨_, _, rfl⟩
   | 1, _ => exact ⟨_, _, rfl⟩
   | 2, _ => exact ⟨_, _, rfl⟩
  refine zo6 (w := w6) (A := A6) (H := H6) (ids := [0, 1, 2]) (ents := vars3 cs n k) (vals := (#[.tmp 4, .tmp 5, .tmp 6] : Array Operand).map a2.eval) h6 (x4_lends hon hren) hpd hu hset (inv3 _ w6) (hcap _ _ w6 A6 hHi hsti) rfl ?_
  rintro es w7 H7 A7 rfl h7
  have h8 := h7
  rw [x4_put cs cs' n k n' k' hren'] at h8
  obtain ⟨xv, hrun, hrep⟩ := zok (P := Tryz.prog) h8 zoD hok
  rw [hout] at hrep
  refine ⟨xv, hrun, .ret (parV p r), ?_⟩
  have hm8 := (h8.mem.drop znM (by rw [zeF, x4_lent]; exact List.all_eq_true.2 (zgI hon'))).forD 0 []
  obtain ⟨H9, h9⟩ := h2'.back (es := vars3 cs' n' k') hl1 rfl (zgI hon') hm8 none .undef Go.undef .undef
  exact ⟨H9, A7, rfl, (h9.mem.drop hE0 rfl).forD 0 [], xv, rfl, hrep⟩
 have hE1 : ∀ id, entF (vars3 zExp 0 0) id ≠ .gone → id < 3 := znM
 refine wp_seq (ziO (c := ⟨w2, A2, 3, fun k => H2 (nameOf [10, 11, 12] k), entF (vars3 zExp 0 0), G, Tryz.f19.ntmps, [d]⟩) hE1 (show 3 ≤ 50 by omega) (zfM G) h3 (p_rrrl p) ?_)
 rintro y4 a4 w4 H4 A4 h4 ⟨ok4, sc4⟩
 replace h4 := h4.scrub hE1 ok4
 rw [sc4] at h4
 obtain ⟨id, o1, o2, o3, cl, k0, k1, k2, k3, k4, k5, k6, k7, k8, k9, k10, k11⟩ := zna
 refine wp_seq (wp_call3 (i := 53) (slot := 90) (e := prsE L p) k0 k1 k2 k3 k4 k5 k6 k7 k8 k9 k10 (k11 G) (show 3 ≤ 90 by omega) h4 (show 23 < Tryz.f19.ntmps by decide) (show 7 < Tryz.f19.ntmps by decide) rfl ?_ (zoy hL hT hp hr) ?_ ?_)
 ·exact x3_lends L p p zExp
 ·intro v e' hR
  rcases partM_cases hR with ⟨e, q, rfl, he, he2, hq⟩ | ⟨q, rfl, he, -, -⟩
  ·cases he
   simp only [List.cons.injEq, and_true] at he2
   subst he2
   refine ⟨_, _, x3_store L p p q e, fun a5 w5 H5 A5 h5 => ?_⟩
   obtain ⟨ok5, sc5⟩ := x3_next L p p q e
   rw [lend53] at h5
   replace h5 := h5.scrub hE1 ok5
   rw [sc5] at h5
   refine znF (c := ⟨w2, A2, 3, fun k => H2 (nameOf [10, 11, 12] k), entF (vars3 zExp 0 0), G, Tryz.f19.ntmps, [d]⟩) hE1 (show 3 ≤ 80 by omega) (ze4 G) h5 (p_rest p q e (hc e q rfl)) ?_
   rintro y6 a6 w6 H6 A6 h6 ⟨ok6, sc6⟩
   replace h6 := h6.scrub hE1 ok6
   rw [sc6] at h6
   have hdf6 := h6.df
   show Go.Leaves Tryz.prog Tryz.f19 a6.tmps _ a6.defers .returning w6
   rw [hdf6]
   by_cases h24 : 24 < Ex.deep e
   ·rw [if_pos h24] at h6
    have ho : outV [.cell 4 true 11, .cell 5 false 1, .cell 6 false 1] (X4 zExp p 12) = parV p (.ok [e] q) := by
     rw [x4_outZ]; simp only [parV]; rw [if_pos h24]
    exact leave zExp zExp p 12 p 12 a6 w6 H6 A6 _ _ h6 rfl zgF rfl zgF (zoB rfl) (fun h => by cases h) rfl ho (out_ok _ _ _ (v := .agg (expC Ex.e0)) (x4_outZ _ _))
   ·rw [if_neg h24] at h6
    have ho : outV [.cell 4 true 11, .cell 5 false 1, .cell 6 false 1] (X4 (expC e) q 0) = parV p (.ok [e] q) := by
     rw [znE]; simp only [parV]; rw [if_neg h24]
    exact leave (expC e) (expC e) q 0 q 0 a6 w6 H6 A6 _ _ h6 (expC_on _ e) (fun ρ => zmF ρ e) (expC_on _ e) (fun ρ => zmF ρ e) (zoB (expC_on _ e)) (fun h => by cases h) rfl ho (out_ok _ _ _ (v := .agg (expC e)) (znE _ _ _))
  ·cases he
 ·intro v e' hR xv w5 H5 A5 hrep h5
  rcases partM_cases hR with ⟨e, q, rfl, he, -, -⟩ | ⟨q, rfl, he, he2, hq⟩
  ·cases he
  ·cases he
   simp only [List.cons.injEq, and_true] at he2
   subst he2
   have hxv := stop_rep hrep
   subst hxv
   obtain ⟨ok5, sc5⟩ := x3_stop L p p q
   have hdf5 := h5.df
   rw [lend53] at h5
   replace h5 := h5.scrub hE1 ok5
   rw [sc5] at h5
   show Go.Leaves Tryz.prog Tryz.f19 (a4.put (some 23) (a4.tmps.getD 7 Go.undef)).tmps _ (a4.put (some 23) (a4.tmps.getD 7 Go.undef)).defers (.panicking _) w5
   rw [hdf5]
   exact leave zExp zExp 0 0 q 20 _ w5 H5 A5 _ _ h5 rfl zgF rfl zgF (pd_stop rfl q) (fun h => by cases h) rfl (x4_outZ _ _) (out_ok _ _ _ (v := .agg (expC Ex.e0)) (x4_outZ _ _))
end
end Go.Proofs.YtakegkongmnekaaGreatDoor
namespace Go.Proofs.YtakegkongmnekaaGreatDoor
open Go.RowKit
open Vm
def zq22 : RT := (.step ⟨none, .store 11 (.t 4) (.t 29), 45, none, []⟩ (zs 5 (.move (.t 31)) 46 (zs 6 (.move (.t 33)) 47 .done)))
def L_tomeref25_Parse : FC :=
 ⟨42, (.seq (.reg (zs 4 (.alloc 27 zE) 10 (zs 5 (.move (.c (.int .i64 0))) 11 (zs 6 (.move (.c (.int .i64 0))) 12 .done)))) (.seq (.seq (.reg (zs 9 (.move (.t 1)) 13 (zs 10 (za .lss (.t 9) (.c (.int .i64 0))) 14 (zs 11 (.move (.t 10)) 15 (.step ⟨(some 12), .move (.t 1), 16, (some (11, false)), []⟩ (.step ⟨(some 13), .move (.t 0), 17, (some (11, false)), []⟩ (.step ⟨(some 14), .lenl (.t 13), 18, (some (11, false)), []⟩ (.step ⟨(some 15), za .gtr (.t 12) (.t 14), 19, (some (11, false)), []⟩ (zs 16 (.pick (.t 11) (.c (.bool true)) (.t 15)) 20 .done))))))))) (.cond (.t 16) (.seq (.reg (zs 17 (.build zE []) 21 (zs 18 (.move (.t 1)) 22 (.step ⟨none, .store 11 (.t 4) (.t 17), 23, none, []⟩ (zs 5 (.move (.t 18)) 24 (zs 6 (.move (.c (.int .i64 20))) 25 .done)))))) .ret) .skip)) (.seq (.reg (zs 20 (.move (.t 0)) 26 (zs 21 (.move (.t 1)) 27 (zs 22 (.build [.nils, (.int .i64 0), (.int .i64 0), (.int .i64 0)] [(0, 1, (.t 20)), (1, 1, (.t 21))]) 28 (zs 23 (zc 44 [(.t 22), (.c (.int .i64 0))]) 29 (zs 19 (.move (.t 23)) 30 (zs 24 (.ext (.t 19) 0) 31 (zs 25 (.ext (.t 19) 1) 32 (zs 7 (.alloc 68 [.nils, (.int .i64 0), (.int .i64 0), (.int .i64 0)]) 33 (zs 8 (.alloc 27 zE) 34 (.step ⟨none, .store 4 (.t 7) (.t 24), 35, none, []⟩ (.step ⟨none, .store 11 (.t 8) (.t 25), 36, none, []⟩ .done)))))))))))) (.seq (.seq (.reg (zs 26 (.faddr 2 (.t 7)) 37 (zs 27 (zl (.t 26)) 38 (zs 28 (za .neq (.t 27) (.c (.int .i64 0))) 39 .done)))) (.cond (.t 28) (.seq (.reg (zs 29 (.build zE []) 40 (zs 30 (.faddr 3 (.t 7)) 41 (zs 32 (.faddr 2 (.t 7)) 43 (.alt (zs 31 (zl (.t 30)) 42 (.alt (zs 33 (zl (.t 32)) 44 zq22) (.step ⟨none, .store 11 (.t 4) (.t 29), 45, none, []⟩ (zs 33 (zl (.t 32)) 44 (zs 5 (.move (.t 31)) 46 (zs 6 (.move (.t 33)) 47 .done)))))) (.alt (zs 33 (zl (.t 32)) 44 (.alt (zs 31 (zl (.t 30)) 42 zq22) (.step ⟨none, .store 11 (.t 4) (.t 29), 45, none, []⟩ (zs 31 (zl (.t 30)) 42 (zs 5 (.move (.t 31)) 46 (zs 6 (.move (.t 33)) 47 .done)))))) (.step ⟨none, .store 11 (.t 4) (.t 29), 45, none, []⟩ (zs 31 (zl (.t 30)) 42 (zs 33 (zl (.t 32)) 44 (zs 5 (.move (.t 31)) 46 (zs 6 (.move (.t 33)) 47 .done))))))))))) .ret) .skip)) (.seq (.seq (.reg (zs 34 (.load true 11 (.t 8)) 48 (zs 35 (zc 14 [(.t 34)]) 49 (zs 36 (za .gtr (.t 35) (.c (.int .i64 24))) 50 .done)))) (.cond (.t 36) (.seq (.reg (zs 37 (.build zE []) 51 (zs 38 (.move (.t 1)) 52 (.step ⟨none, .store 11 (.t 4) (.t 37), 53, none, []⟩ (zs 5 (.move (.t 38)) 54 (zs 6 (.move (.c (.int .i64 12))) 55 .done)))))) .ret) .skip)) (.seq (.reg (zs 39 (.load true 11 (.t 8)) 56 (zs 40 (.faddr 1 (.t 7)) 57 (.alt (zs 41 (zl (.t 40)) 58 (.step ⟨none, .store 11 (.t 4) (.t 39), 59, none, []⟩ (zs 5 (.move (.t 41)) 60 (zs 6 (.move (.c (.int .i64 0))) 61 .done)))) (.step ⟨none, .store 11 (.t 4) (.t 39), 59, none, []⟩ (zs 41 (zl (.t 40)) 58 (zs 5 (.move (.t 41)) 60 (zs 6 (.move (.c (.int .i64 0))) 61 .done)))))))) .ret)))))), [.cell 4 true 11, .tmp 5, .tmp 6]⟩
theorem zgc (G : Nat → V) : zaX Tryz.prog G 10 21 = some L_tomeref25_Parse := by kernel_rfl
def L_tomeref25_Of : FC :=
 ⟨64, (.seq (.reg (zs 2 (.alloc 27 zE) 10 (zs 3 (.move (.c (.int .i64 0))) 11 (zs 4 (.move (.c (.int .i64 0))) 12 .done)))) (.seq (.reg (zs 12 (.move (.t 0)) 13 (zs 13 (zc 20 [(.t 12)]) 14 (zs 11 (.move (.t 13)) 15 (zs 14 (.ext (.t 11) 0) 16 (zs 15 (.ext (.t 11) 1) 17 (zs 16 (.ext (.t 11) 2) 18 (zs 5 (.move (.t 14)) 19 (zs 6 (.move (.t 15)) 20 (zs 7 (.move (.t 16)) 21 .done)))))))))) (.seq (.seq (.reg (zs 17 (.move (.t 7)) 22 (zs 18 (za .neq (.t 17) (.c (.int .i64 0))) 23 .done))) (.cond (.t 18) (.seq (.reg (zs 19 (.build zE []) 24 (zs 20 (.move (.t 6)) 25 (zs 21 (.move (.t 7)) 26 (.step ⟨none, .store 11 (.t 2) (.t 19), 27, none, []⟩ (zs 3 (.move (.t 20)) 28 (zs 4 (.move (.t 21)) 29 .done))))))) .ret) .skip)) (.seq (.reg (zs 23 (.move (.t 5)) 30 (zs 24 (zc 21 [(.t 23), (.c (.int .i64 0))]) 31 (zs 22 (.move (.t 24)) 32 (zs 25 (.ext (.t 22) 0) 33 (zs 26 (.ext (.t 22) 1) 34 (zs 27 (.ext (.t 22) 2) 35 (zs 8 (.alloc 27 zE) 36 (.step ⟨none, .store 11 (.t 8) (.t 25), 37, none, []⟩ (zs 9 (.move (.t 26)) 38 (zs 10 (.move (.t 27)) 39 .done))))))))))) (.seq (.seq (.reg (zs 28 (.move (.t 10)) 40 (zs 29 (za .eql (.t 28) (.c (.int .i64 0))) 41 (zs 30 (.move (.t 29)) 42 (.step ⟨(some 31), .move (.t 9), 43, (some (30, true)), []⟩ (.step ⟨(some 32), .move (.t 5), 44, (some (30, true)), []⟩ (.step ⟨(some 33), .lenl (.t 32), 45, (some (30, true)), []⟩ (.step ⟨(some 34), za .lss (.t 31) (.t 33), 46, (some (30, true)), []⟩ (zs 35 (.pick (.t 30) (.t 34) (.c (.bool false))) 47 (zs 36 (.move (.t 35)) 48 (.step ⟨(some 37), .move (.t 5), 49, (some (36, true)), []⟩ (.step ⟨(some 38), .move (.t 9), 50, (some (36, true)), []⟩ (.step ⟨(some 39), .iaddr 6 (.t 37) (.t 38), 51, (some (36, true)), []⟩ (.step ⟨(some 40), .faddr 0 (.t 39), 52, (some (36, true)), []⟩ (.step ⟨(some 41), zl (.t 40), 53, (some (36, true)), []⟩ (.step ⟨(some 42), za .neq (.t 41) (.c (.int .i64 0)), 54, (some (36, true)), []⟩ (zs 43 (.pick (.t 36) (.t 42) (.c (.bool false))) 55 .done))))))))))))))))) (.cond (.t 43) (.reg (zs 10 (.move (.c (.int .i64 20))) 56 .done)) .skip)) (.seq (.seq (.reg (zs 44 (.move (.t 10)) 57 (zs 45 (za .eql (.t 44) (.c (.int .i64 0))) 58 .done))) (.cond (.t 45) (.seq (.reg (zs 46 (.load true 11 (.t 8)) 59 (zs 47 (.move (.t 0)) 60 (zs 48 (.lens (.t 47)) 61 (.step ⟨none, .store 11 (.t 2) (.t 46), 62, none, []⟩ (zs 3 (.move (.t 48)) 63 (zs 4 (.move (.c (.int .i64 0))) 64 .done))))))) .ret) .skip)) (.seq (.seq (.reg (zs 49 (.move (.t 9)) 65 (zs 50 (.move (.t 5)) 66 (zs 51 (.lenl (.t 50)) 67 (zs 52 (za .lss (.t 49) (.t 51)) 68 .done))))) (.cond (.t 52) (.seq (.reg (zs 53 (.build zE []) 69 (zs 54 (.move (.t 5)) 70 (zs 55 (.move (.t 9)) 71 (zs 56 (.iaddr 6 (.t 54) (.t 55)) 72 (zs 57 (.faddr 5 (.t 56)) 73 (zs 59 (.move (.t 10)) 75 (.alt (zs 58 (zl (.t 57)) 74 (.step ⟨none, .store 11 (.t 2) (.t 53), 76, none, []⟩ (zs 3 (.move (.t 58)) 77 (zs 4 (.move (.t 59)) 78 .done)))) (.step ⟨none, .store 11 (.t 2) (.t 53), 76, none, []⟩ (zs 58 (zl (.t 57)) 74 (zs 3 (.move (.t 58)) 77 (zs 4 (.move (.t 59)) 78 .done)))))))))))) .ret) .skip)) (.seq (.reg (zs 60 (.build zE []) 79 (zs 61 (.move (.t 0)) 80 (zs 62 (.lens (.t 61)) 81 (zs 63 (.move (.t 10)) 82 (.step ⟨none, .store 11 (.t 2) (.t 60), 83, none, []⟩ (zs 3 (.move (.t 62)) 84 (zs 4 (.move (.t 63)) 85 .done)))))))) .ret)))))))), [.cell 2 true 11, .tmp 3, .tmp 4]⟩
theorem zh8 (G : Nat → V) : zaX Tryz.prog G 10 8 = some L_tomeref25_Of := by kernel_rfl
def L_expr_Of : FC :=
 ⟨57, (.seq (.reg (zs 1 (.box 9 (.t 0)) 10 (zs 2 (.alloc 27 zE) 11 (zs 3 (.move (.c (.int .i64 0))) 12 (zs 4 (.move (.c (.int .i64 0))) 13 .done))))) (.seq (.reg (zs 12 (zl (.t 1)) 14 (zs 13 (zc 17 [(.t 12)]) 15 (zs 11 (.move (.t 13)) 16 (zs 14 (.ext (.t 11) 0) 17 (zs 15 (.ext (.t 11) 1) 18 (zs 16 (.ext (.t 11) 2) 19 (zs 5 (.alloc 39 [.nils]) 20 (.step ⟨none, .store 1 (.t 5) (.t 14), 21, none, []⟩ (zs 6 (.move (.t 15)) 22 (zs 7 (.move (.t 16)) 23 .done))))))))))) (.seq (.seq (.reg (zs 17 (.move (.t 7)) 24 (zs 18 (za .neq (.t 17) (.c (.int .i64 0))) 25 .done))) (.cond (.t 18) (.seq (.reg (zs 19 (.build zE []) 26 (zs 20 (.move (.t 6)) 27 (zs 21 (.move (.t 7)) 28 (.step ⟨none, .store 11 (.t 2) (.t 19), 29, none, []⟩ (zs 3 (.move (.t 20)) 30 (zs 4 (.move (.t 21)) 31 .done))))))) .ret) .skip)) (.seq (.reg (zs 22 (.fn 18 [] [(.t 5), (.t 1)]) 32 (zs 8 (.move (.t 22)) 33 .done))) (.seq (.reg (zs 24 (zl (.t 5)) 34 (zs 25 (zc 19 [(.t 24), (.c (.int .i64 0))]) 35 (zs 23 (.move (.t 25)) 36 (zs 26 (.ext (.t 23) 0) 37 (zs 27 (.ext (.t 23) 1) 38 (zs 28 (.ext (.t 23) 2) 39 (zs 9 (.alloc 27 zE) 40 (.step ⟨none, .store 11 (.t 9) (.t 26), 41, none, []⟩ (zs 10 (.move (.t 27)) 42 (zs 7 (.move (.t 28)) 43 .done))))))))))) (.seq (.block 0 (.seq (.reg (zs 30 (.move (.t 7)) 44 (zs 31 (za .neq (.t 30) (.c (.int .i64 0))) 45 (zs 29 (.move (.t 31)) 46 .done)))) (.cond (.t 29) (.seq (.reg (zs 32 (.build zE []) 47 (zs 33 (.move (.t 8)) 48 (zs 34 (.move (.t 10)) 49 (zs 35 (.call false (.t 33) [(.t 34)]) 50 (zs 36 (.move (.t 7)) 51 (.step ⟨none, .store 11 (.t 2) (.t 32), 52, none, []⟩ (zs 3 (.move (.t 35)) 53 (zs 4 (.move (.t 36)) 54 .done))))))))) .ret) (.seq (.reg (zs 38 (.move (.t 10)) 55 (zs 39 (zl (.t 5)) 56 (zs 40 (.lenl (.t 39)) 57 (zs 41 (za .lss (.t 38) (.t 40)) 58 (zs 42 (.move (.t 41)) 59 (.step ⟨(some 43), zl (.t 5), 60, (some (42, true)), []⟩ (.step ⟨(some 44), .move (.t 10), 61, (some (42, true)), []⟩ (.step ⟨(some 45), .iaddr 6 (.t 43) (.t 44), 62, (some (42, true)), []⟩ (.step ⟨(some 46), .faddr 0 (.t 45), 63, (some (42, true)), []⟩ (.step ⟨(some 47), zl (.t 46), 64, (some (42, true)), []⟩ (.step ⟨(some 48), za .neq (.t 47) (.c (.int .i64 0)), 65, (some (42, true)), []⟩ (zs 49 (.pick (.t 42) (.t 48) (.c (.bool false))) 66 (zs 37 (.move (.t 49)) 67 .done)))))))))))))) (.cond (.t 37) (.seq (.reg (zs 50 (.build zE []) 68 (zs 51 (.move (.t 8)) 69 (zs 52 (.move (.t 10)) 70 (zs 53 (.call false (.t 51) [(.t 52)]) 71 (.step ⟨none, .store 11 (.t 2) (.t 50), 72, none, []⟩ (zs 3 (.move (.t 53)) 73 (zs 4 (.move (.c (.int .i64 20))) 74 .done)))))))) .ret) .skip))))) (.seq (.reg (zs 54 (.load true 11 (.t 9)) 75 (zs 55 (zl (.t 1)) 76 (.step ⟨(some 56), .lens (.t 55), 77, none, [9]⟩ (.step ⟨none, .store 11 (.t 2) (.t 54), 78, none, [1]⟩ (zs 3 (.move (.t 56)) 79 (zs 4 (.move (.c (.int .i64 0))) 80 .done))))))) .ret))))))), [.cell 2 true 11, .tmp 3, .tmp 4]⟩
theorem zpE (G : Nat → V) : zaX Tryz.prog G 10 7 = some L_expr_Of := by kernel_rfl
def L_expr_Of_1 : FC :=
 ⟨16, (.seq (.reg (zs 4 (.move (.c (.int .i64 0))) 10 .done)) (.seq (.seq (.reg (zs 5 (.move (.t 0)) 11 (zs 6 (zl (.t 1)) 12 (zs 7 (.lenl (.t 6)) 13 (zs 8 (za .lss (.t 5) (.t 7)) 14 .done))))) (.cond (.t 8) (.seq (.reg (zs 9 (zl (.t 1)) 15 (zs 10 (.move (.t 0)) 16 (zs 11 (.iaddr 6 (.t 9) (.t 10)) 17 (zs 12 (.faddr 5 (.t 11)) 18 (zs 13 (zl (.t 12)) 19 (zs 4 (.move (.t 13)) 20 .done))))))) .ret) .skip)) (.seq (.reg (zs 14 (zl (.t 2)) 21 (zs 15 (.lens (.t 14)) 22 (zs 4 (.move (.t 15)) 23 .done)))) .ret))), [.tmp 4]⟩
theorem zlD (G : Nat → V) : zaX Tryz.prog G 10 18 = some L_expr_Of_1 := by kernel_rfl
end Go.Proofs.YtakegkongmnekaaGreatDoor
namespace Go.Proofs.YtakegkongmnekaaGreatDoor
open Go.RowKit
open Vm
attribute [local irreducible] wpR wpC
section
variable {G : Nat → Vm.V} {L : List Lx.TA}
set_option maxHeartbeats 4000000 in
theorem r_Parse (hL : L.length ≤ 999999) (hT : Good L) (hG : zpQ L) {p m : Nat} {r : Ex.R} (hp : p ≤ L.length) (hr : Ex.run (L.map (·.1)) m (.lev 0) p = some r) (hc : ∀ e q, r = .ok [e] q → Ex.count e ≤ 900000) (h1l : ∀ l q, r = .ok l q → ∃ e, l = [e]) :
  Ret Tryz.prog G 21 [.list (L.map tokM), .int .i64 (p : Int)] (parV p r) := by
 refine za7 (zgc G) (by simp [L_tomeref25_Parse]) ?_
 show wpC _ _ 0 (panK 0 _) _ (retK 0 _ _) (mkX [(0, _), (1, _)] [])
 have hrd : ∀ a b w, rdV L a b w = .agg [.list (L.map tokM), .int .i64 a, .int .i64 b, .int .i64 w] := fun _ _ _ => rfl
 have x0 := zx; have hpr : ∀ q f, (prsE L q).on f = true := fun _ _ => rfl
 have hpart := ref_part (G := G) hL hT hG hp hr
 have h1 : ((L.length : Int) < (p : Int)) = False := eq_false (by omega)
 have h2 : (L.length < p) = False := eq_false (by omega)
 simp only [L_tomeref25_Parse, zq22, zs, za, zl, zc, zE]
 cases r with
 | stop q =>
  repeat' (first
   | refine ww ?_ | (refine ixl ?_; intro a ha) | (refine ixs ?_; intro c hc)
   | (refine cz ?_ ?_ <;> intro hb)
   | refine zah ?_ ?_
   | (refine cx hpart ?_; intro v hv; rcases okV_elim hv with ⟨e, q', hqq, rfl, hq2⟩ | ⟨q', hqq, p', cs, rfl, ⟨z1, z2, z3, z4, z5, z6, z7, z8⟩, hp'⟩ <;> cases hqq))
  all_goals simp [parV, expC, Ex.e0, Ex.v0]
 | ok l q =>
  obtain ⟨e, rfl⟩ := h1l l q rfl
  ·skip
   have hd := r_Deep (G := G) _ e (Nat.le_refl _) (hc e q rfl)
   by_cases h24 : 24 < Ex.deep e
   ·repeat' (first
     | refine ww ?_ | (refine ixl ?_; intro a ha) | (refine ixs ?_; intro c hc)
     | (refine cr (hd) ?_)
     | (refine cz ?_ ?_ <;> intro hb)
     | refine zah ?_ ?_
     | (refine cx hpart ?_; intro v hv; rcases okV_elim hv with ⟨e', q', hqq, rfl, hq2⟩ | ⟨q', hqq, p', cs, rfl, ⟨z1, z2, z3, z4, z5, z6, z7, z8⟩, hp'⟩ <;> cases hqq))
    all_goals first | (exfalso; omega) | simp [parV, expC, Ex.e0, Ex.v0, h24]
   ·repeat' (first
     | refine ww ?_ | (refine ixl ?_; intro a ha) | (refine ixs ?_; intro c hc)
     | (refine cr (hd) ?_)
     | (refine cz ?_ ?_ <;> intro hb)
     | refine zah ?_ ?_
     | (refine cx hpart ?_; intro v hv; rcases okV_elim hv with ⟨e', q', hqq, rfl, hq2⟩ | ⟨q', hqq, p', cs, rfl, ⟨z1, z2, z3, z4, z5, z6, z7, z8⟩, hp'⟩ <;> cases hqq))
    all_goals first | (exfalso; omega) | simp [parV, h24]
end
end Go.Proofs.YtakegkongmnekaaGreatDoor
namespace Go.Proofs.YtakegkongmnekaaGreatDoor
open Go.RowKit
open Vm
attribute [local irreducible] wpR wpC
def ofV (e : Ex.E) (n : Nat) (no : Int) : Vm.V := .tup [.agg (expC e), .int .i64 (n : Int), .int .i64 no]
section
variable {G : Nat → Vm.V} {s : List UInt8} {l : List Lx.TA} {a : Nat}
theorem zn0 : ∀ {l : List Lx.T} {t : Lx.T}, t ∈ l → t.text.length ≤ (l.map fun t => t.text.length).sum
 | u :: l, t, h => by
  rw [List.map_cons, List.sum_cons]
  rcases List.mem_cons.1 h with rfl | h
  ·omega
  ·have := zn0 h; omega
theorem zj8 (h : Lx.scan s = (l, a, 0)) : l.length ≤ 4097 := (Ex.zdW h).2.2.2.2.2
theorem scan_G (hs : s.length ≤ 1000000) (h : Lx.scan s = (l, a, 0)) : Good l := fun i t ht => by
 obtain ⟨g1, g2, g3, g4, g5, g6⟩ := Ex.zdW h
 have hm : t.1 ∈ l.map (·.1) := List.mem_map.2 ⟨t, List.mem_of_getElem? ht, rfl⟩
 have hg := g3 _ hm
 have := zn0 hm
 exact ⟨by omega, hg.lo, hg.hi⟩
theorem scan_G2 (h : Lx.scan s = (l, a, 0)) : zpQ l := fun i t ht => by
 obtain ⟨g1, g2, g3, g4, g5, g6⟩ := Ex.zdW h
 have hm : t.1 ∈ l.map (·.1) := List.mem_map.2 ⟨t, List.mem_of_getElem? ht, rfl⟩
 exact (g3 _ hm).int
theorem zi5 (h : Lx.scan s = (l, a, 0)) {m : Nat} {r : Ex.R} (hr : Ex.run (l.map (·.1)) m (.lev 0) 0 = some r) : (∀ k q, r = .ok k q → ∃ e, k = [e]) ∧ ∀ e q, r = .ok [e] q → Ex.count e ≤ 900000 := by
 obtain ⟨g1, g2, g3, g4, g5, g6⟩ := Ex.zdW h
 refine ⟨fun k q hk => ?_, fun e q hk => ?_⟩
 ·subst hk
  obtain ⟨-, e, he, -⟩ := (Ex.zfN _ g2 m).1 0 0 _ _ hr
  exact ⟨e, he⟩
 ·subst hk
  have := (Ex.run_ok h hr).2.2.2.2
  omega
theorem par_r (hs : s.length ≤ 1000000) (h : Lx.scan s = (l, a, 0)) {m : Nat} {r : Ex.R} (hr : Ex.run (l.map (·.1)) m (.lev 0) 0 = some r) : Ret Tryz.prog G 21 [.list (l.map tokM), .int .i64 0] (parV 0 r) :=
 r_Parse (G := G) (p := 0) (by have := zj8 h; omega) (scan_G hs h) (scan_G2 h) (Nat.zero_le _) hr (zi5 h hr).2 (zi5 h hr).1
theorem zep {t : Lx.TA} {n i : Nat} (h : l[i]? = some t) : Ex.zko l n i = t.2 := by unfold Ex.zko; rw [h]
theorem zfW {n i : Nat} (h : l[i]? = none) : Ex.zko l n i = n := by unfold Ex.zko; rw [h]
set_option maxHeartbeats 4000000 in
theorem r_Of {e : Ex.E} {n : Nat} {no : Int} (hs : s.length ≤ 1000000) (h : Ex.OfR s e n no) : Ret Tryz.prog G 8 [.str s] (ofV e n no) := by
 refine za7 (zh8 G) (by simp [L_tomeref25_Of]) ?_
 show wpC _ _ 0 (panK 0 _) _ (retK 0 _ _) (mkX [(0, _)] [])
 have hsc := r_Scan (G := G) hs
 have htk := zcu
 have htc := zdl
 have x0 := zx
 cases h with
 | bad l a no hscan hne =>
  rw [zfL, hscan] at hsc
  have hne' : (no = 0) = False := eq_false hne
  simp only [L_tomeref25_Of, zs, za, zl, zc, zE]
  repeat' (first
   | refine ww ?_ | (refine ixl ?_; intro a ha) | (refine ixs ?_; intro c hc)
   | (refine cr (hsc) ?_)
   | (refine cz ?_ ?_ <;> intro hb)
   | refine zah ?_ ?_)
  all_goals simp [ofV, expC, Ex.e0, Ex.v0]
 | stop l a m q hscan hr =>
  rw [zfL, hscan] at hsc
  have hpar := par_r (G := G) hs hscan hr
  simp only [parV] at hpar
  simp only [L_tomeref25_Of, zs, za, zl, zc, zE]
  cases hq : l[q]? with
  | some t =>
   rw [zep hq]
   obtain ⟨hlt, hte⟩ := List.getElem?_eq_some_iff.1 hq
   repeat' (first
    | refine ww ?_ | (refine ixl ?_; intro a ha) | (refine ixs ?_; intro c hc)
    | (refine cr (hsc) ?_)
    | (refine cr (hpar) ?_)
    | (refine cz ?_ ?_ <;> intro hb)
    | refine zah ?_ ?_)
   all_goals simp [ofV, expC, Ex.e0, Ex.v0, hte]
  | none =>
   rw [zfW hq]
   have hge : l.length ≤ q := by simpa using hq
   repeat' (first
    | refine ww ?_ | (refine ixl ?_; intro a ha) | (refine ixs ?_; intro c hc)
    | (refine cr (hsc) ?_)
    | (refine cr (hpar) ?_)
    | (refine cz ?_ ?_ <;> intro hb)
    | refine zah ?_ ?_)
   all_goals simp [ofV, expC, Ex.e0, Ex.v0]
 | deep l a m q e hscan hr hd =>
  rw [zfL, hscan] at hsc
  have hpar := par_r (G := G) hs hscan hr
  simp only [parV, if_pos hd] at hpar
  simp only [L_tomeref25_Of, zs, za, zl, zc, zE]
  cases hq : l[0]? with
  | some t =>
   rw [zep hq]
   obtain ⟨hlt, hte⟩ := List.getElem?_eq_some_iff.1 hq
   repeat' (first
    | refine ww ?_ | (refine ixl ?_; intro a ha) | (refine ixs ?_; intro c hc)
    | (refine cr (hsc) ?_)
    | (refine cr (hpar) ?_)
    | (refine cz ?_ ?_ <;> intro hb)
    | refine zah ?_ ?_)
   all_goals simp [ofV, expC, Ex.e0, Ex.v0, hte]
  | none =>
   rw [zfW hq]
   have hge : l.length ≤ 0 := by simpa using hq
   repeat' (first
    | refine ww ?_ | (refine ixl ?_; intro a ha) | (refine ixs ?_; intro c hc)
    | (refine cr (hsc) ?_)
    | (refine cr (hpar) ?_)
    | (refine cz ?_ ?_ <;> intro hb)
    | refine zah ?_ ?_)
   all_goals simp [ofV, expC, Ex.e0, Ex.v0]
 | rest l a m q e t hscan hr hd hq hk =>
  rw [zfL, hscan] at hsc
  have hpar := par_r (G := G) hs hscan hr
  simp only [parV, if_neg (show ¬ 24 < Ex.deep e by omega)] at hpar
  simp only [L_tomeref25_Of, zs, za, zl, zc, zE]
  obtain ⟨hlt, hte⟩ := List.getElem?_eq_some_iff.1 hq
  have hk' : (t.1.kind = 0) = False := eq_false hk
  repeat' (first
   | refine ww ?_ | (refine ixl ?_; intro a ha) | (refine ixs ?_; intro c hc)
   | (refine cr (hsc) ?_)
   | (refine cr (hpar) ?_)
   | (refine cz ?_ ?_ <;> intro hb)
   | refine zah ?_ ?_)
  all_goals simp [ofV, expC, Ex.e0, Ex.v0, hte]
 | ok l a m q e hscan hr hd hk =>
  rw [zfL, hscan] at hsc
  have hpar := par_r (G := G) hs hscan hr
  simp only [parV, if_neg (show ¬ 24 < Ex.deep e by omega)] at hpar
  simp only [L_tomeref25_Of, zs, za, zl, zc, zE]
  cases hq : l[q]? with
  | some t =>
   obtain ⟨hlt, hte⟩ := List.getElem?_eq_some_iff.1 hq
   have hk' := hk t hq
   repeat' (first
    | refine ww ?_ | (refine ixl ?_; intro a ha) | (refine ixs ?_; intro c hc)
    | (refine cr (hsc) ?_)
    | (refine cr (hpar) ?_)
    | (refine cz ?_ ?_ <;> intro hb)
    | refine zah ?_ ?_)
   all_goals simp [ofV]
  | none =>
   have hge : l.length ≤ q := by simpa using hq
   repeat' (first
    | refine ww ?_ | (refine ixl ?_; intro a ha) | (refine ixs ?_; intro c hc)
    | (refine cr (hsc) ?_)
    | (refine cr (hpar) ?_)
    | (refine cz ?_ ?_ <;> intro hb)
    | refine zah ?_ ?_)
   all_goals simp [ofV]
end
end Go.Proofs.YtakegkongmnekaaGreatDoor
