/- Part of the proof: see the last text. -/
import Derived.Test.YtakegkongmnekaaGreatDoorP0
import Derived.Test.YtakegkongmnekaaGreatDoorP16
import Derived.Test.YtakegkongmnekaaGreatDoorP18
import Derived.Test.YtakegkongmnekaaGreatDoorP19
import Derived.Test.YtakegkongmnekaaGreatDoorP20
import Derived.Test.YtakegkongmnekaaGreatDoorP25
set_option maxRecDepth 20000
set_option linter.unusedVariables false
set_option linter.unusedSimpArgs false
namespace Go.Proofs.YtakegkongmnekaaGreatDoor
open Go.RowKit
open Vm
def L_expr_parser_is : FC :=
 ⟨47, (.seq (.reg (zs 8 (.move (.c (.bool false))) 10 .done)) (.seq (.reg (zs 10 (.move (.t 0)) 11 (zs 11 (.chk (.t 10)) 12 (zs 12 (.faddr 1 (.t 11)) 13 (zs 13 (zl (.t 12)) 14 (zs 14 (.move (.t 1)) 15 (zs 15 (za .add (.t 13) (.t 14)) 16 (zs 9 (.move (.t 15)) 17 .done)))))))) (.seq (.reg (zs 16 (.move (.t 9)) 18 (zs 17 (.move (.t 0)) 19 (zs 18 (.chk (.t 17)) 20 (zs 19 (.faddr 0 (.t 18)) 21 (zs 20 (zl (.t 19)) 22 (zs 21 (.lenl (.t 20)) 23 (zs 22 (za .lss (.t 16) (.t 21)) 24 (zs 23 (.move (.t 22)) 25 (.step ⟨(some 24), .move (.t 0), 26, (some (23, true)), []⟩ (.step ⟨(some 25), .chk (.t 24), 27, (some (23, true)), []⟩ (.step ⟨(some 26), .faddr 0 (.t 25), 28, (some (23, true)), []⟩ (.step ⟨(some 27), zl (.t 26), 29, (some (23, true)), []⟩ (.step ⟨(some 28), .move (.t 9), 30, (some (23, true)), []⟩ (.step ⟨(some 29), .iaddr 6 (.t 27) (.t 28), 31, (some (23, true)), []⟩ (.step ⟨(some 30), .faddr 0 (.t 29), 32, (some (23, true)), []⟩ (.step ⟨(some 31), zl (.t 30), 33, (some (23, true)), []⟩ (.step ⟨(some 32), .move (.t 2), 34, (some (23, true)), []⟩ (.step ⟨(some 33), za .eql (.t 31) (.t 32), 35, (some (23, true)), []⟩ (zs 34 (.pick (.t 23) (.t 33) (.c (.bool false))) 36 (zs 35 (.move (.t 34)) 37 (.step ⟨(some 36), .move (.t 0), 38, (some (35, true)), []⟩ (.step ⟨(some 37), .chk (.t 36), 39, (some (35, true)), []⟩ (.step ⟨(some 38), .faddr 0 (.t 37), 40, (some (35, true)), []⟩ (.step ⟨(some 39), zl (.t 38), 41, (some (35, true)), []⟩ (.step ⟨(some 40), .move (.t 9), 42, (some (35, true)), []⟩ (.step ⟨(some 41), .iaddr 6 (.t 39) (.t 40), 43, (some (35, true)), []⟩ (.step ⟨(some 42), .faddr 1 (.t 41), 44, (some (35, true)), []⟩ (.step ⟨(some 43), zl (.t 42), 45, (some (35, true)), []⟩ (.step ⟨(some 44), .move (.t 3), 46, (some (35, true)), []⟩ (.step ⟨(some 45), za .eql (.t 43) (.t 44), 47, (some (35, true)), []⟩ (zs 46 (.pick (.t 35) (.t 45) (.c (.bool false))) 48 (zs 8 (.move (.t 46)) 49 .done))))))))))))))))))))))))))))))))) .ret))), [.tmp 8]⟩
theorem zgE (G : Nat → V) : zaX Tryz.prog G 10 134 = some L_expr_parser_is := by kernel_rfl
def L_expr_parser_take : FC :=
 ⟨19, (.seq (.reg (zs 6 (.move (.c (.bool false))) 10 .done)) (.seq (.seq (.reg (zs 7 (.move (.t 0)) 11 (zs 8 (.move (.t 1)) 12 (zs 9 (.move (.t 2)) 13 (zs 10 (.call false (.c (.fn 134 [] [])) [(.t 7), (.c (.int .i64 0)), (.t 8), (.t 9)]) 14 (zs 11 (.un .not (.t 10)) 15 .done)))))) (.cond (.t 11) (.seq (.reg (zs 6 (.move (.c (.bool false))) 16 .done)) .ret) .skip)) (.seq (.reg (zs 12 (.move (.t 0)) 17 (zs 13 (.chk (.t 12)) 18 (zs 14 (.faddr 1 (.t 13)) 19 (zs 15 (zl (.t 14)) 20 (zs 16 (za .add (.t 15) (.c (.int .i64 1))) 21 (zs 17 (.chk (.t 12)) 22 (zs 18 (.faddr 1 (.t 17)) 23 (.step ⟨none, .store 1 (.t 18) (.t 16), 24, none, []⟩ .done))))))))) (.seq (.reg (zs 6 (.move (.c (.bool true))) 25 .done)) .ret)))), [.tmp 6]⟩
theorem zft (G : Nat → V) : zaX Tryz.prog G 10 117 = some L_expr_parser_take := by kernel_rfl
def L_expr_parser_word : FC :=
 ⟨8, (.seq (.reg (zs 4 (.move (.c (.bool false))) 10 .done)) (.seq (.reg (zs 5 (.move (.t 0)) 11 (zs 6 (.move (.t 1)) 12 (zs 7 (.call false (.c (.fn 117 [] [])) [(.t 5), (.c (.int .i64 2)), (.t 6)]) 13 (zs 4 (.move (.t 7)) 14 .done))))) .ret)), [.tmp 4]⟩
theorem zfs (G : Nat → V) : zaX Tryz.prog G 10 118 = some L_expr_parser_word := by kernel_rfl
def L_expr_parser_mark : FC :=
 ⟨8, (.seq (.reg (zs 4 (.move (.c (.bool false))) 10 .done)) (.seq (.reg (zs 5 (.move (.t 0)) 11 (zs 6 (.move (.t 1)) 12 (zs 7 (.call false (.c (.fn 117 [] [])) [(.t 5), (.c (.int .i64 4)), (.t 6)]) 13 (zs 4 (.move (.t 7)) 14 .done))))) .ret)), [.tmp 4]⟩
theorem zfv (G : Nat → V) : zaX Tryz.prog G 10 145 = some L_expr_parser_mark := by kernel_rfl
def L_expr_parser_wrong : FC :=
 ⟨8, (.reg (zs 2 (.move (.t 0)) 10 (zs 3 (.chk (.t 2)) 11 (zs 4 (.faddr 1 (.t 3)) 12 (zs 5 (zl (.t 4)) 13 (zs 6 (.build [(.int .i64 0)] [(0, 1, (.t 5))]) 14 (zs 7 (.iface 59 (.t 6)) 15 (.step ⟨none, .pan (.t 7), 16, none, []⟩ .done)))))))), []⟩
theorem zeU (G : Nat → V) : zaX Tryz.prog G 10 144 = some L_expr_parser_wrong := by kernel_rfl
def L_expr_parser_must : FC :=
 ⟨13, (.seq (.reg (zs 6 (.move (.t 0)) 10 (zs 7 (.move (.t 1)) 11 (zs 8 (.move (.t 2)) 12 (zs 9 (.call false (.c (.fn 117 [] [])) [(.t 6), (.t 7), (.t 8)]) 13 (zs 10 (.un .not (.t 9)) 14 .done)))))) (.cond (.t 10) (.reg (zs 11 (.move (.t 0)) 15 (zs 12 (.call false (.c (.fn 144 [] [])) [(.t 11)]) 16 .done))) .skip)), []⟩
theorem zfu (G : Nat → V) : zaX Tryz.prog G 10 136 = some L_expr_parser_must := by kernel_rfl
def L_expr_parser_kind : FC :=
 ⟨50, (.seq (.reg (zs 4 (.alloc 43 [(.int .i64 0), (.str []), (.int .i64 0), (.int .i64 0), (.str []), (.int .i64 0)]) 10 (zs 5 (.move (.c (.bool false))) 11 .done))) (.seq (.seq (.reg (zs 6 (.move (.t 0)) 12 (zs 7 (.chk (.t 6)) 13 (zs 8 (.faddr 1 (.t 7)) 14 (zs 9 (zl (.t 8)) 15 (zs 10 (.move (.t 0)) 16 (zs 11 (.chk (.t 10)) 17 (zs 12 (.faddr 0 (.t 11)) 18 (zs 13 (zl (.t 12)) 19 (zs 14 (.lenl (.t 13)) 20 (zs 15 (za .geq (.t 9) (.t 14)) 21 (zs 16 (.move (.t 15)) 22 (.step ⟨(some 17), .move (.t 0), 23, (some (16, false)), []⟩ (.step ⟨(some 18), .chk (.t 17), 24, (some (16, false)), []⟩ (.step ⟨(some 19), .faddr 0 (.t 18), 25, (some (16, false)), []⟩ (.step ⟨(some 20), zl (.t 19), 26, (some (16, false)), []⟩ (.step ⟨(some 21), .move (.t 0), 27, (some (16, false)), []⟩ (.step ⟨(some 22), .chk (.t 21), 28, (some (16, false)), []⟩ (.step ⟨(some 23), .faddr 1 (.t 22), 29, (some (16, false)), []⟩ (.step ⟨(some 24), zl (.t 23), 30, (some (16, false)), []⟩ (.step ⟨(some 25), .iaddr 6 (.t 20) (.t 24), 31, (some (16, false)), []⟩ (.step ⟨(some 26), .faddr 0 (.t 25), 32, (some (16, false)), []⟩ (.step ⟨(some 27), zl (.t 26), 33, (some (16, false)), []⟩ (.step ⟨(some 28), .move (.t 1), 34, (some (16, false)), []⟩ (.step ⟨(some 29), za .neq (.t 27) (.t 28), 35, (some (16, false)), []⟩ (zs 30 (.pick (.t 16) (.c (.bool true)) (.t 29)) 36 .done)))))))))))))))))))))))))) (.cond (.t 30) (.seq (.reg (zs 31 (.build [(.int .i64 0), (.str []), (.int .i64 0), (.int .i64 0), (.str []), (.int .i64 0)] []) 37 (.step ⟨none, .store 6 (.t 4) (.t 31), 38, none, []⟩ (zs 5 (.move (.c (.bool false))) 39 .done)))) .ret) .skip)) (.seq (.reg (zs 32 (.move (.t 0)) 40 (zs 33 (.chk (.t 32)) 41 (zs 34 (.faddr 1 (.t 33)) 42 (zs 35 (zl (.t 34)) 43 (zs 36 (za .add (.t 35) (.c (.int .i64 1))) 44 (zs 37 (.chk (.t 32)) 45 (zs 38 (.faddr 1 (.t 37)) 46 (.step ⟨none, .store 1 (.t 38) (.t 36), 47, none, []⟩ .done))))))))) (.seq (.reg (zs 39 (.move (.t 0)) 48 (zs 40 (.chk (.t 39)) 49 (zs 41 (.faddr 0 (.t 40)) 50 (zs 42 (zl (.t 41)) 51 (zs 43 (.move (.t 0)) 52 (zs 44 (.chk (.t 43)) 53 (zs 45 (.faddr 1 (.t 44)) 54 (zs 46 (zl (.t 45)) 55 (zs 47 (za .sub (.t 46) (.c (.int .i64 1))) 56 (zs 48 (.iaddr 6 (.t 42) (.t 47)) 57 (zs 49 (.load true 6 (.t 48)) 58 (.step ⟨none, .store 6 (.t 4) (.t 49), 59, none, []⟩ (zs 5 (.move (.c (.bool true))) 60 .done)))))))))))))) .ret)))), [.cell 4 true 6, .tmp 5]⟩
theorem zfx (G : Nat → V) : zaX Tryz.prog G 10 151 = some L_expr_parser_kind := by kernel_rfl
def L_expr_parser_one : FC :=
 ⟨22, (.seq (.reg (zs 6 (.move (.c (.str []))) 10 (zs 7 (.move (.c (.bool false))) 11 .done))) (.seq (.seq (.reg (zs 10 (.move (.t 2)) 12 (zs 11 (.lenl (.t 10)) 13 (zs 12 (.move (.c (.int .i64 0))) 14 .done)))) (.block 0 (.loop (.seq (.reg (zs 13 (za .lss (.t 12) (.t 11)) 15 .done)) (.seq (.cond (.t 13) .skip (.exit 0)) (.seq (.block 1 (.seq (.reg (zs 14 (.iaddr 1 (.t 10) (.t 12)) 16 (zs 15 (zl (.t 14)) 17 (zs 9 (.move (.t 15)) 18 .done)))) (.seq (.reg (zs 16 (.move (.t 0)) 19 (zs 17 (.move (.t 1)) 20 (zs 18 (.move (.t 9)) 21 (zs 19 (.call false (.c (.fn 117 [] [])) [(.t 16), (.t 17), (.t 18)]) 22 .done))))) (.cond (.t 19) (.seq (.reg (zs 20 (.move (.t 9)) 23 (zs 6 (.move (.t 20)) 24 (zs 7 (.move (.c (.bool true))) 25 .done)))) .ret) .skip)))) (.reg (zs 21 (za .add (.t 12) (.c (.int .i64 1))) 26 (zs 12 (.move (.t 21)) 27 .done))))))))) (.seq (.reg (zs 6 (.move (.c (.str []))) 28 (zs 7 (.move (.c (.bool false))) 29 .done))) .ret))), [.tmp 6, .tmp 7]⟩
theorem zgf (G : Nat → V) : zaX Tryz.prog G 10 94 = some L_expr_parser_one := by kernel_rfl
def L_expr_parser_chain : FC :=
 ⟨30, (.seq (.reg (zs 8 (.alloc 27 zE) 10 .done)) (.seq (.reg (zs 12 (.move (.t 1)) 11 (zs 13 (.call false (.t 12) []) 12 (zs 9 (.alloc 27 zE) 13 (.step ⟨none, .store 11 (.t 9) (.t 13), 14, none, []⟩ .done))))) (.block 0 (.loop (.block 1 (.seq (.reg (zs 15 (.move (.t 0)) 15 (zs 16 (.move (.t 2)) 16 (zs 17 (.move (.t 3)) 17 (zs 18 (.call false (.c (.fn 94 [] [])) [(.t 15), (.t 16), (.t 17)]) 18 (zs 14 (.move (.t 18)) 19 (zs 19 (.ext (.t 14) 0) 20 (zs 20 (.ext (.t 14) 1) 21 (zs 10 (.move (.t 19)) 22 (zs 11 (.move (.t 20)) 23 .done)))))))))) (.seq (.seq (.reg (zs 21 (.move (.t 11)) 24 (zs 22 (.un .not (.t 21)) 25 .done))) (.cond (.t 22) (.seq (.reg (zs 23 (.load true 11 (.t 9)) 26 (.step ⟨none, .store 11 (.t 8) (.t 23), 27, none, []⟩ .done))) .ret) .skip)) (.reg (zs 24 (.move (.t 10)) 28 (zs 25 (.load true 11 (.t 9)) 29 (zs 26 (.move (.t 1)) 30 (.step ⟨(some 27), .call false (.t 26) [], 31, none, [9]⟩ (zs 28 (.bslice 27 11 [(.t 25), (.t 27)]) 32 (zs 29 (.build zE [(0, 1, (.c (.int .i64 4))), (1, 1, (.t 24)), (10, 1, (.t 28))]) 33 (.step ⟨none, .store 11 (.t 9) (.t 29), 34, none, []⟩ .done))))))))))))))), [.cell 8 true 11]⟩
theorem zeX (G : Nat → V) : zaX Tryz.prog G 10 68 = some L_expr_parser_chain := by kernel_rfl
def L_expr_parser_expr : FC :=
 ⟨8, (.seq (.reg (zs 2 (.alloc 27 zE) 10 .done)) (.seq (.reg (zs 3 (.move (.t 0)) 11 (zs 4 (.move (.t 0)) 12 (zs 5 (.fn 69 [(.t 4)] []) 13 (zs 6 (.bslice 9 1 [(.c (.str [111, 114]))]) 14 (zs 7 (.call false (.c (.fn 68 [] [])) [(.t 3), (.t 5), (.c (.int .i64 2)), (.t 6)]) 15 (.step ⟨none, .store 11 (.t 2) (.t 7), 16, none, []⟩ .done))))))) .ret)), [.cell 2 true 11]⟩
theorem zfz (G : Nat → V) : zaX Tryz.prog G 10 41 = some L_expr_parser_expr := by kernel_rfl
def L_expr_parser_conjunction : FC :=
 ⟨8, (.seq (.reg (zs 2 (.alloc 27 zE) 10 .done)) (.seq (.reg (zs 3 (.move (.t 0)) 11 (zs 4 (.move (.t 0)) 12 (zs 5 (.fn 95 [(.t 4)] []) 13 (zs 6 (.bslice 9 1 [(.c (.str [97, 110, 100]))]) 14 (zs 7 (.call false (.c (.fn 68 [] [])) [(.t 3), (.t 5), (.c (.int .i64 2)), (.t 6)]) 15 (.step ⟨none, .store 11 (.t 2) (.t 7), 16, none, []⟩ .done))))))) .ret)), [.cell 2 true 11]⟩
theorem zdi (G : Nat → V) : zaX Tryz.prog G 10 69 = some L_expr_parser_conjunction := by kernel_rfl
def L_expr_parser_negation : FC :=
 ⟨11, (.seq (.reg (zs 2 (.alloc 27 zE) 10 .done)) (.seq (.seq (.reg (zs 3 (.move (.t 0)) 11 (zs 4 (.call false (.c (.fn 118 [] [])) [(.t 3), (.c (.str [110, 111, 116]))]) 12 .done))) (.cond (.t 4) (.seq (.reg (zs 5 (.move (.t 0)) 13 (zs 6 (.call false (.c (.fn 95 [] [])) [(.t 5)]) 14 (zs 7 (.bslice 27 11 [(.t 6)]) 15 (zs 8 (.build zE [(0, 1, (.c (.int .i64 3))), (1, 1, (.c (.str [110, 111, 116]))), (10, 1, (.t 7))]) 16 (.step ⟨none, .store 11 (.t 2) (.t 8), 17, none, []⟩ .done)))))) .ret) .skip)) (.seq (.reg (zs 9 (.move (.t 0)) 18 (zs 10 (.call false (.c (.fn 119 [] [])) [(.t 9)]) 19 (.step ⟨none, .store 11 (.t 2) (.t 10), 20, none, []⟩ .done)))) .ret))), [.cell 2 true 11]⟩
theorem zdQ (G : Nat → V) : zaX Tryz.prog G 10 95 = some L_expr_parser_negation := by kernel_rfl
def L_expr_parser_sum : FC :=
 ⟨8, (.seq (.reg (zs 2 (.alloc 27 zE) 10 .done)) (.seq (.reg (zs 3 (.move (.t 0)) 11 (zs 4 (.move (.t 0)) 12 (zs 5 (.fn 143 [(.t 4)] []) 13 (zs 6 (.bslice 9 1 [(.c (.str [43])), (.c (.str [45]))]) 14 (zs 7 (.call false (.c (.fn 68 [] [])) [(.t 3), (.t 5), (.c (.int .i64 4)), (.t 6)]) 15 (.step ⟨none, .store 11 (.t 2) (.t 7), 16, none, []⟩ .done))))))) .ret)), [.cell 2 true 11]⟩
theorem zge (G : Nat → V) : zaX Tryz.prog G 10 135 = some L_expr_parser_sum := by kernel_rfl
def L_expr_parser_product : FC :=
 ⟨8, (.seq (.reg (zs 2 (.alloc 27 zE) 10 .done)) (.seq (.reg (zs 3 (.move (.t 0)) 11 (zs 4 (.move (.t 0)) 12 (zs 5 (.fn 148 [(.t 4)] []) 13 (zs 6 (.bslice 9 1 [(.c (.str [42])), (.c (.str [47])), (.c (.str [37]))]) 14 (zs 7 (.call false (.c (.fn 68 [] [])) [(.t 3), (.t 5), (.c (.int .i64 4)), (.t 6)]) 15 (.step ⟨none, .store 11 (.t 2) (.t 7), 16, none, []⟩ .done))))))) .ret)), [.cell 2 true 11]⟩
theorem zef (G : Nat → V) : zaX Tryz.prog G 10 143 = some L_expr_parser_product := by kernel_rfl
def L_expr_parser_join : FC :=
 ⟨8, (.seq (.reg (zs 2 (.alloc 27 zE) 10 .done)) (.seq (.reg (zs 3 (.move (.t 0)) 11 (zs 4 (.move (.t 0)) 12 (zs 5 (.fn 149 [(.t 4)] []) 13 (zs 6 (.bslice 9 1 [(.c (.str [124, 124]))]) 14 (zs 7 (.call false (.c (.fn 68 [] [])) [(.t 3), (.t 5), (.c (.int .i64 4)), (.t 6)]) 15 (.step ⟨none, .store 11 (.t 2) (.t 7), 16, none, []⟩ .done))))))) .ret)), [.cell 2 true 11]⟩
theorem zfy (G : Nat → V) : zaX Tryz.prog G 10 148 = some L_expr_parser_join := by kernel_rfl
def L_expr_parser_comparison : FC :=
 ⟨92, (.seq (.reg (zs 2 (.alloc 27 zE) 10 .done)) (.seq (.reg (zs 9 (.move (.t 0)) 11 (zs 10 (.call false (.c (.fn 135 [] [])) [(.t 9)]) 12 (zs 3 (.alloc 27 zE) 13 (.step ⟨none, .store 11 (.t 3) (.t 10), 14, none, []⟩ .done))))) (.seq (.seq (.reg (zs 12 (.move (.t 0)) 15 (zs 13 (.bslice 9 1 [(.c (.str [61])), (.c (.str [60, 62])), (.c (.str [60])), (.c (.str [60, 61])), (.c (.str [62])), (.c (.str [62, 61]))]) 16 (zs 14 (.call false (.c (.fn 94 [] [])) [(.t 12), (.c (.int .i64 4)), (.t 13)]) 17 (zs 11 (.move (.t 14)) 18 (zs 15 (.ext (.t 11) 0) 19 (zs 16 (.ext (.t 11) 1) 20 (zs 4 (.move (.t 15)) 21 (zs 5 (.move (.t 16)) 22 .done))))))))) (.seq (.reg (zs 17 (.move (.t 5)) 23 .done)) (.cond (.t 17) (.seq (.reg (zs 18 (.move (.t 4)) 24 (zs 19 (.load true 11 (.t 3)) 25 (zs 20 (.move (.t 0)) 26 (.step ⟨(some 21), .call false (.c (.fn 135 [] [])) [(.t 20)], 27, none, [3]⟩ (zs 22 (.bslice 27 11 [(.t 19), (.t 21)]) 28 (zs 23 (.build zE [(0, 1, (.c (.int .i64 4))), (1, 1, (.t 18)), (10, 1, (.t 22))]) 29 (.step ⟨none, .store 11 (.t 2) (.t 23), 30, none, []⟩ .done)))))))) .ret) .skip))) (.seq (.seq (.reg (zs 24 (.move (.t 0)) 31 (zs 25 (.call false (.c (.fn 118 [] [])) [(.t 24), (.c (.str [105, 115]))]) 32 .done))) (.cond (.t 25) (.seq (.reg (zs 26 (.move (.t 0)) 33 (zs 27 (.call false (.c (.fn 118 [] [])) [(.t 26), (.c (.str [110, 111, 116]))]) 34 (zs 6 (.move (.t 27)) 35 .done)))) (.seq (.reg (zs 28 (.move (.t 6)) 36 (zs 29 (.load true 11 (.t 3)) 37 (zs 30 (.move (.t 0)) 38 (.step ⟨(some 31), .call false (.c (.fn 135 [] [])) [(.t 30)], 39, none, [3]⟩ (zs 32 (.bslice 27 11 [(.t 29), (.t 31)]) 40 (zs 33 (.build zE [(0, 1, (.c (.int .i64 5))), (8, 1, (.t 28)), (10, 1, (.t 32))]) 41 (.step ⟨none, .store 11 (.t 2) (.t 33), 42, none, []⟩ .done)))))))) .ret)) .skip)) (.seq (.reg (zs 34 (.move (.t 0)) 43 (zs 35 (.call false (.c (.fn 134 [] [])) [(.t 34), (.c (.int .i64 0)), (.c (.int .i64 2)), (.c (.str [110, 111, 116]))]) 44 (zs 36 (.move (.t 35)) 45 (.step ⟨(some 37), .move (.t 0), 46, (some (36, true)), []⟩ (.step ⟨(some 38), .call false (.c (.fn 134 [] [])) [(.t 37), (.c (.int .i64 1)), (.c (.int .i64 2)), (.c (.str [105, 110]))], 47, (some (36, true)), []⟩ (.step ⟨(some 39), .move (.t 38), 48, (some (36, true)), []⟩ (.step ⟨(some 40), .move (.t 0), 49, (some (39, false)), []⟩ (.step ⟨(some 41), .call false (.c (.fn 134 [] [])) [(.t 40), (.c (.int .i64 1)), (.c (.int .i64 2)), (.c (.str [98, 101, 116, 119, 101, 101, 110]))], 50, (some (39, false)), []⟩ (.step ⟨(some 42), .pick (.t 39) (.c (.bool true)) (.t 41), 51, (some (36, true)), []⟩ (.step ⟨(some 43), .move (.t 42), 52, (some (36, true)), []⟩ (.step ⟨(some 44), .move (.t 0), 53, (some (43, false)), []⟩ (.step ⟨(some 45), .call false (.c (.fn 134 [] [])) [(.t 44), (.c (.int .i64 1)), (.c (.int .i64 2)), (.c (.str [108, 105, 107, 101]))], 54, (some (43, false)), []⟩ (.step ⟨(some 46), .pick (.t 43) (.c (.bool true)) (.t 45), 55, (some (36, true)), []⟩ (zs 47 (.pick (.t 36) (.t 46) (.c (.bool false))) 56 (zs 7 (.move (.t 47)) 57 .done)))))))))))))))) (.seq (.seq (.reg (zs 48 (.move (.t 7)) 58 .done)) (.cond (.t 48) (.reg (zs 49 (.move (.t 0)) 59 (zs 50 (.chk (.t 49)) 60 (zs 51 (.faddr 1 (.t 50)) 61 (zs 52 (zl (.t 51)) 62 (zs 53 (za .add (.t 52) (.c (.int .i64 1))) 63 (zs 54 (.chk (.t 49)) 64 (zs 55 (.faddr 1 (.t 54)) 65 (.step ⟨none, .store 1 (.t 55) (.t 53), 66, none, []⟩ .done))))))))) .skip)) (.seq (.block 0 (.seq (.reg (zs 57 (.move (.t 0)) 67 (zs 58 (.call false (.c (.fn 118 [] [])) [(.t 57), (.c (.str [105, 110]))]) 68 (zs 56 (.move (.t 58)) 69 .done)))) (.cond (.t 56) (.seq (.reg (zs 59 (.move (.t 0)) 70 (zs 60 (.call false (.c (.fn 136 [] [])) [(.t 59), (.c (.int .i64 4)), (.c (.str [40]))]) 71 .done))) (.seq (.reg (zs 61 (.move (.t 7)) 72 (zs 62 (.load true 11 (.t 3)) 73 (zs 63 (.bslice 27 11 [(.t 62)]) 74 (zs 64 (.move (.t 0)) 75 (.step ⟨(some 65), .call false (.c (.fn 137 [] [])) [(.t 64)], 76, none, [3]⟩ (zs 66 (.app 27 11 128 (.t 63) (.t 65)) 77 (zs 67 (.build zE [(0, 1, (.c (.int .i64 6))), (8, 1, (.t 61)), (10, 1, (.t 66))]) 78 (.step ⟨none, .store 11 (.t 2) (.t 67), 79, none, []⟩ .done))))))))) .ret)) (.seq (.reg (zs 69 (.move (.t 0)) 80 (zs 70 (.call false (.c (.fn 118 [] [])) [(.t 69), (.c (.str [98, 101, 116, 119, 101, 101, 110]))]) 81 (zs 68 (.move (.t 70)) 82 .done)))) (.cond (.t 68) (.seq (.reg (zs 71 (.move (.t 0)) 83 (zs 72 (.call false (.c (.fn 135 [] [])) [(.t 71)]) 84 (zs 8 (.alloc 27 zE) 85 (.step ⟨none, .store 11 (.t 8) (.t 72), 86, none, []⟩ .done))))) (.seq (.reg (zs 73 (.move (.t 0)) 87 (zs 74 (.call false (.c (.fn 136 [] [])) [(.t 73), (.c (.int .i64 2)), (.c (.str [97, 110, 100]))]) 88 .done))) (.seq (.reg (zs 75 (.move (.t 7)) 89 (zs 76 (.load true 11 (.t 3)) 90 (zs 77 (.load true 11 (.t 8)) 91 (zs 78 (.move (.t 0)) 92 (.step ⟨(some 79), .call false (.c (.fn 135 [] [])) [(.t 78)], 93, none, [3, 8]⟩ (zs 80 (.bslice 27 11 [(.t 76), (.t 77), (.t 79)]) 94 (zs 81 (.build zE [(0, 1, (.c (.int .i64 7))), (8, 1, (.t 75)), (10, 1, (.t 80))]) 95 (.step ⟨none, .store 11 (.t 2) (.t 81), 96, none, []⟩ .done))))))))) .ret))) (.seq (.reg (zs 83 (.move (.t 0)) 97 (zs 84 (.call false (.c (.fn 118 [] [])) [(.t 83), (.c (.str [108, 105, 107, 101]))]) 98 (zs 82 (.move (.t 84)) 99 .done)))) (.cond (.t 82) (.seq (.reg (zs 85 (.move (.t 7)) 100 (zs 86 (.load true 11 (.t 3)) 101 (zs 87 (.move (.t 0)) 102 (.step ⟨(some 88), .call false (.c (.fn 135 [] [])) [(.t 87)], 103, none, [3]⟩ (zs 89 (.bslice 27 11 [(.t 86), (.t 88)]) 104 (zs 90 (.build zE [(0, 1, (.c (.int .i64 8))), (8, 1, (.t 85)), (10, 1, (.t 89))]) 105 (.step ⟨none, .store 11 (.t 2) (.t 90), 106, none, []⟩ .done)))))))) .ret) .skip))))))) (.seq (.reg (zs 91 (.load true 11 (.t 3)) 107 (.step ⟨none, .store 11 (.t 2) (.t 91), 108, none, []⟩ .done))) .ret)))))))), [.cell 2 true 11]⟩
theorem zdC (G : Nat → V) : zaX Tryz.prog G 10 119 = some L_expr_parser_comparison := by kernel_rfl
def L_expr_parser_list : FC :=
 ⟨17, (.seq (.reg (zs 2 (.move (.c .nils)) 10 .done)) (.seq (.reg (zs 4 (.move (.t 0)) 11 (zs 5 (.call false (.c (.fn 41 [] [])) [(.t 4)]) 12 (zs 6 (.bslice 27 11 [(.t 5)]) 13 (zs 3 (.move (.t 6)) 14 .done))))) (.seq (.block 0 (.loop (.seq (.seq (.reg (zs 7 (.move (.t 0)) 15 (zs 8 (.call false (.c (.fn 145 [] [])) [(.t 7), (.c (.str [44]))]) 16 .done))) (.cond (.t 8) .skip (.exit 0))) (.block 1 (.reg (zs 9 (.move (.t 3)) 17 (zs 10 (.move (.t 0)) 18 (zs 11 (.call false (.c (.fn 41 [] [])) [(.t 10)]) 19 (zs 12 (.bslice 27 11 [(.t 11)]) 20 (zs 13 (.app 27 11 128 (.t 9) (.t 12)) 21 (zs 3 (.move (.t 13)) 22 .done))))))))))) (.seq (.reg (zs 14 (.move (.t 0)) 23 (zs 15 (.call false (.c (.fn 136 [] [])) [(.t 14), (.c (.int .i64 4)), (.c (.str [41]))]) 24 .done))) (.seq (.reg (zs 16 (.move (.t 3)) 25 (zs 2 (.move (.t 16)) 26 .done))) .ret))))), [.tmp 2]⟩
theorem zfw (G : Nat → V) : zaX Tryz.prog G 10 137 = some L_expr_parser_list := by kernel_rfl
def L_expr_parser_signed : FC :=
 ⟨88, (.seq (.reg (zs 2 (.alloc 27 zE) 10 .done)) (.seq (.reg (zs 7 (.move (.t 0)) 11 (zs 8 (.bslice 9 1 [(.c (.str [45])), (.c (.str [43]))]) 12 (zs 9 (.call false (.c (.fn 94 [] [])) [(.t 7), (.c (.int .i64 4)), (.t 8)]) 13 (zs 6 (.move (.t 9)) 14 (zs 10 (.ext (.t 6) 0) 15 (zs 11 (.ext (.t 6) 1) 16 (zs 3 (.move (.t 10)) 17 (zs 4 (.move (.t 11)) 18 .done))))))))) (.seq (.seq (.reg (zs 12 (.move (.t 4)) 19 (zs 13 (.un .not (.t 12)) 20 .done))) (.cond (.t 13) (.seq (.reg (zs 14 (.move (.t 0)) 21 (zs 15 (.call false (.c (.fn 150 [] [])) [(.t 14)]) 22 (.step ⟨none, .store 11 (.t 2) (.t 15), 23, none, []⟩ .done)))) .ret) .skip)) (.seq (.seq (.reg (zs 16 (.move (.t 3)) 24 (zs 17 (za .eql (.t 16) (.c (.str [45]))) 25 (zs 18 (.move (.t 17)) 26 (.step ⟨(some 19), .move (.t 0), 27, (some (18, true)), []⟩ (.step ⟨(some 20), .chk (.t 19), 28, (some (18, true)), []⟩ (.step ⟨(some 21), .faddr 1 (.t 20), 29, (some (18, true)), []⟩ (.step ⟨(some 22), zl (.t 21), 30, (some (18, true)), []⟩ (.step ⟨(some 23), .move (.t 0), 31, (some (18, true)), []⟩ (.step ⟨(some 24), .chk (.t 23), 32, (some (18, true)), []⟩ (.step ⟨(some 25), .faddr 0 (.t 24), 33, (some (18, true)), []⟩ (.step ⟨(some 26), zl (.t 25), 34, (some (18, true)), []⟩ (.step ⟨(some 27), .lenl (.t 26), 35, (some (18, true)), []⟩ (.step ⟨(some 28), za .lss (.t 22) (.t 27), 36, (some (18, true)), []⟩ (zs 29 (.pick (.t 18) (.t 28) (.c (.bool false))) 37 (zs 30 (.move (.t 29)) 38 (.step ⟨(some 31), .move (.t 0), 39, (some (30, true)), []⟩ (.step ⟨(some 32), .chk (.t 31), 40, (some (30, true)), []⟩ (.step ⟨(some 33), .faddr 0 (.t 32), 41, (some (30, true)), []⟩ (.step ⟨(some 34), zl (.t 33), 42, (some (30, true)), []⟩ (.step ⟨(some 35), .move (.t 0), 43, (some (30, true)), []⟩ (.step ⟨(some 36), .chk (.t 35), 44, (some (30, true)), []⟩ (.step ⟨(some 37), .faddr 1 (.t 36), 45, (some (30, true)), []⟩ (.step ⟨(some 38), zl (.t 37), 46, (some (30, true)), []⟩ (.step ⟨(some 39), .iaddr 6 (.t 34) (.t 38), 47, (some (30, true)), []⟩ (.step ⟨(some 40), .faddr 0 (.t 39), 48, (some (30, true)), []⟩ (.step ⟨(some 41), zl (.t 40), 49, (some (30, true)), []⟩ (.step ⟨(some 42), za .eql (.t 41) (.c (.int .i64 3)), 50, (some (30, true)), []⟩ (zs 43 (.pick (.t 30) (.t 42) (.c (.bool false))) 51 (zs 44 (.move (.t 43)) 52 (.step ⟨(some 45), .move (.t 0), 53, (some (44, true)), []⟩ (.step ⟨(some 46), .chk (.t 45), 54, (some (44, true)), []⟩ (.step ⟨(some 47), .faddr 0 (.t 46), 55, (some (44, true)), []⟩ (.step ⟨(some 48), zl (.t 47), 56, (some (44, true)), []⟩ (.step ⟨(some 49), .move (.t 0), 57, (some (44, true)), []⟩ (.step ⟨(some 50), .chk (.t 49), 58, (some (44, true)), []⟩ (.step ⟨(some 51), .faddr 1 (.t 50), 59, (some (44, true)), []⟩ (.step ⟨(some 52), zl (.t 51), 60, (some (44, true)), []⟩ (.step ⟨(some 53), .iaddr 6 (.t 48) (.t 52), 61, (some (44, true)), []⟩ (.step ⟨(some 54), .faddr 2 (.t 53), 62, (some (44, true)), []⟩ (.step ⟨(some 55), .faddr 0 (.t 54), 63, (some (44, true)), []⟩ (.step ⟨(some 56), zl (.t 55), 64, (some (44, true)), []⟩ (.step ⟨(some 57), za .eql (.t 56) (.c (.int .i64 1)), 65, (some (44, true)), []⟩ (zs 58 (.pick (.t 44) (.t 57) (.c (.bool false))) 66 .done)))))))))))))))))))))))))))))))))))))))))))) (.cond (.t 58) (.seq (.reg (zs 59 (.move (.t 0)) 67 (zs 60 (.chk (.t 59)) 68 (zs 61 (.faddr 0 (.t 60)) 69 (zs 62 (zl (.t 61)) 70 (zs 63 (.move (.t 0)) 71 (zs 64 (.chk (.t 63)) 72 (zs 65 (.faddr 1 (.t 64)) 73 (zs 66 (zl (.t 65)) 74 (zs 67 (.iaddr 6 (.t 62) (.t 66)) 75 (zs 68 (.faddr 2 (.t 67)) 76 (zs 69 (.load true 3 (.t 68)) 77 (zs 5 (.alloc 24 [(.int .i64 0), (.int .i64 0), (.str [])]) 78 (.step ⟨none, .store 3 (.t 5) (.t 69), 79, none, []⟩ .done)))))))))))))) (.seq (.reg (zs 70 (.move (.t 0)) 80 (zs 71 (.chk (.t 70)) 81 (zs 72 (.faddr 1 (.t 71)) 82 (zs 73 (zl (.t 72)) 83 (zs 74 (za .add (.t 73) (.c (.int .i64 1))) 84 (zs 75 (.chk (.t 70)) 85 (zs 76 (.faddr 1 (.t 75)) 86 (.step ⟨none, .store 1 (.t 76) (.t 74), 87, none, []⟩ .done))))))))) (.seq (.reg (zs 77 (.faddr 1 (.t 5)) 88 (zs 78 (zl (.t 77)) 89 (zs 79 (.un .neg (.t 78)) 90 (zs 80 (.faddr 1 (.t 5)) 91 (.step ⟨none, .store 1 (.t 80) (.t 79), 92, none, []⟩ .done)))))) (.seq (.reg (zs 81 (.load true 3 (.t 5)) 93 (zs 82 (.build zE [(0, 1, (.c (.int .i64 1))), (2, 3, (.t 81))]) 94 (.step ⟨none, .store 11 (.t 2) (.t 82), 95, none, []⟩ .done)))) .ret)))) .skip)) (.seq (.reg (zs 83 (.move (.t 3)) 96 (zs 84 (.move (.t 0)) 97 (zs 85 (.call false (.c (.fn 149 [] [])) [(.t 84)]) 98 (zs 86 (.bslice 27 11 [(.t 85)]) 99 (zs 87 (.build zE [(0, 1, (.c (.int .i64 3))), (1, 1, (.t 83)), (10, 1, (.t 86))]) 100 (.step ⟨none, .store 11 (.t 2) (.t 87), 101, none, []⟩ .done))))))) .ret))))), [.cell 2 true 11]⟩
theorem zex (G : Nat → V) : zaX Tryz.prog G 10 149 = some L_expr_parser_signed := by kernel_rfl
def L_expr_parser_plain : FC :=
 ⟨52, (.seq (.reg (zs 2 (.alloc 27 zE) 10 .done)) (.seq (.seq (.reg (zs 9 (.move (.t 0)) 11 (zs 10 (.call false (.c (.fn 151 [] [])) [(.t 9), (.c (.int .i64 3))]) 12 (zs 8 (.move (.t 10)) 13 (zs 11 (.ext (.t 8) 0) 14 (zs 12 (.ext (.t 8) 1) 15 (zs 3 (.alloc 43 [(.int .i64 0), (.str []), (.int .i64 0), (.int .i64 0), (.str []), (.int .i64 0)]) 16 (.step ⟨none, .store 6 (.t 3) (.t 11), 17, none, []⟩ (zs 4 (.move (.t 12)) 18 .done))))))))) (.seq (.reg (zs 13 (.move (.t 4)) 19 .done)) (.cond (.t 13) (.seq (.reg (zs 14 (.faddr 2 (.t 3)) 20 (zs 15 (.load true 3 (.t 14)) 21 (zs 16 (.build zE [(0, 1, (.c (.int .i64 1))), (2, 3, (.t 15))]) 22 (.step ⟨none, .store 11 (.t 2) (.t 16), 23, none, []⟩ .done))))) .ret) .skip))) (.seq (.seq (.reg (zs 18 (.move (.t 0)) 24 (zs 19 (.call false (.c (.fn 151 [] [])) [(.t 18), (.c (.int .i64 1))]) 25 (zs 17 (.move (.t 19)) 26 (zs 20 (.ext (.t 17) 0) 27 (zs 21 (.ext (.t 17) 1) 28 (zs 5 (.alloc 43 [(.int .i64 0), (.str []), (.int .i64 0), (.int .i64 0), (.str []), (.int .i64 0)]) 29 (.step ⟨none, .store 6 (.t 5) (.t 20), 30, none, []⟩ (zs 6 (.move (.t 21)) 31 .done))))))))) (.seq (.reg (zs 22 (.move (.t 6)) 32 .done)) (.cond (.t 22) (.seq (.reg (zs 23 (.move (.t 0)) 33 (zs 24 (.faddr 1 (.t 5)) 34 (zs 25 (zl (.t 24)) 35 (zs 26 (.call false (.c (.fn 152 [] [])) [(.t 23), (.t 25)]) 36 (.step ⟨none, .store 11 (.t 2) (.t 26), 37, none, []⟩ .done)))))) .ret) .skip))) (.seq (.block 0 (.seq (.reg (zs 28 (.move (.t 0)) 38 (zs 29 (.call false (.c (.fn 118 [] [])) [(.t 28), (.c (.str [110, 117, 108, 108]))]) 39 (zs 27 (.move (.t 29)) 40 .done)))) (.cond (.t 27) (.seq (.reg (zs 30 (.build zE [(0, 1, (.c (.int .i64 1)))]) 41 (.step ⟨none, .store 11 (.t 2) (.t 30), 42, none, []⟩ .done))) .ret) (.seq (.reg (zs 32 (.move (.t 0)) 43 (zs 33 (.call false (.c (.fn 118 [] [])) [(.t 32), (.c (.str [99, 97, 115, 101]))]) 44 (zs 31 (.move (.t 33)) 45 .done)))) (.cond (.t 31) (.seq (.reg (zs 34 (.move (.t 0)) 46 (zs 35 (.call false (.c (.fn 153 [] [])) [(.t 34)]) 47 (.step ⟨none, .store 11 (.t 2) (.t 35), 48, none, []⟩ .done)))) .ret) (.seq (.reg (zs 37 (.move (.t 0)) 49 (zs 38 (.call false (.c (.fn 118 [] [])) [(.t 37), (.c (.str [99, 97, 115, 116]))]) 50 (zs 36 (.move (.t 38)) 51 .done)))) (.cond (.t 36) (.seq (.reg (zs 39 (.move (.t 0)) 52 (zs 40 (.call false (.c (.fn 154 [] [])) [(.t 39)]) 53 (.step ⟨none, .store 11 (.t 2) (.t 40), 54, none, []⟩ .done)))) .ret) (.seq (.reg (zs 42 (.move (.t 0)) 55 (zs 43 (.call false (.c (.fn 145 [] [])) [(.t 42), (.c (.str [40]))]) 56 (zs 41 (.move (.t 43)) 57 .done)))) (.cond (.t 41) (.seq (.reg (zs 44 (.move (.t 0)) 58 (zs 45 (.call false (.c (.fn 41 [] [])) [(.t 44)]) 59 (zs 7 (.alloc 27 zE) 60 (.step ⟨none, .store 11 (.t 7) (.t 45), 61, none, []⟩ .done))))) (.seq (.reg (zs 46 (.move (.t 0)) 62 (zs 47 (.call false (.c (.fn 136 [] [])) [(.t 46), (.c (.int .i64 4)), (.c (.str [41]))]) 63 .done))) (.seq (.reg (zs 48 (.load true 11 (.t 7)) 64 (.step ⟨none, .store 11 (.t 2) (.t 48), 65, none, []⟩ .done))) .ret))) .skip))))))))) (.seq (.reg (zs 49 (.move (.t 0)) 66 (zs 50 (.call false (.c (.fn 144 [] [])) [(.t 49)]) 67 .done))) (.seq (.reg (zs 51 (.build zE []) 68 (.step ⟨none, .store 11 (.t 2) (.t 51), 69, none, []⟩ .done))) .ret)))))), [.cell 2 true 11]⟩
theorem zeV (G : Nat → V) : zaX Tryz.prog G 10 150 = some L_expr_parser_plain := by kernel_rfl
def L_expr_parser_named : FC :=
 ⟨32, (.seq (.reg (zs 4 (.alloc 27 zE) 10 .done)) (.seq (.block 0 (.seq (.reg (zs 8 (.move (.t 0)) 11 (zs 9 (.call false (.c (.fn 145 [] [])) [(.t 8), (.c (.str [46]))]) 12 (zs 7 (.move (.t 9)) 13 .done)))) (.cond (.t 7) (.seq (.reg (zs 11 (.move (.t 0)) 14 (zs 12 (.call false (.c (.fn 151 [] [])) [(.t 11), (.c (.int .i64 1))]) 15 (zs 10 (.move (.t 12)) 16 (zs 13 (.ext (.t 10) 0) 17 (zs 14 (.ext (.t 10) 1) 18 (zs 5 (.alloc 43 [(.int .i64 0), (.str []), (.int .i64 0), (.int .i64 0), (.str []), (.int .i64 0)]) 19 (.step ⟨none, .store 6 (.t 5) (.t 13), 20, none, []⟩ (zs 6 (.move (.t 14)) 21 .done))))))))) (.seq (.seq (.reg (zs 15 (.move (.t 6)) 22 (zs 16 (.un .not (.t 15)) 23 .done))) (.cond (.t 16) (.reg (zs 17 (.move (.t 0)) 24 (zs 18 (.call false (.c (.fn 144 [] [])) [(.t 17)]) 25 .done))) .skip)) (.seq (.reg (zs 19 (.move (.t 1)) 26 (zs 20 (.faddr 1 (.t 5)) 27 (zs 21 (zl (.t 20)) 28 (zs 22 (.build zE [(0, 1, (.c (.int .i64 2))), (5, 1, (.t 19)), (6, 1, (.t 21))]) 29 (.step ⟨none, .store 11 (.t 4) (.t 22), 30, none, []⟩ .done)))))) .ret))) (.seq (.reg (zs 24 (.move (.t 0)) 31 (zs 25 (.call false (.c (.fn 145 [] [])) [(.t 24), (.c (.str [40]))]) 32 (zs 23 (.move (.t 25)) 33 .done)))) (.cond (.t 23) (.seq (.reg (zs 26 (.move (.t 0)) 34 (zs 27 (.move (.t 1)) 35 (zs 28 (zc 64 [(.t 27)]) 36 (zs 29 (.call false (.c (.fn 155 [] [])) [(.t 26), (.t 28)]) 37 (.step ⟨none, .store 11 (.t 4) (.t 29), 38, none, []⟩ .done)))))) .ret) .skip))))) (.seq (.reg (zs 30 (.move (.t 1)) 39 (zs 31 (.build zE [(0, 1, (.c (.int .i64 2))), (6, 1, (.t 30))]) 40 (.step ⟨none, .store 11 (.t 4) (.t 31), 41, none, []⟩ .done)))) .ret))), [.cell 4 true 11]⟩
theorem zeW (G : Nat → V) : zaX Tryz.prog G 10 152 = some L_expr_parser_named := by kernel_rfl
def zq2 : RT := (zs 41 (.bslice 27 11 [(.t 40)]) 55 (zs 42 (.app 27 11 128 (.t 38) (.t 41)) 56 (zs 43 (.faddr 10 (.t 3)) 57 (.step ⟨none, .store 1 (.t 43) (.t 42), 58, none, []⟩ .done))))
def zq1 : RT := (zs 15 (.bslice 27 11 [(.t 14)]) 23 (zs 16 (.app 27 11 128 (.t 12) (.t 15)) 24 (zs 17 (.faddr 10 (.t 3)) 25 (.step ⟨none, .store 1 (.t 17) (.t 16), 26, none, []⟩ .done))))
def zq0 : RT := (zs 32 (.bslice 27 11 [(.t 29), (.t 31)]) 42 (zs 33 (.app 27 11 128 (.t 28) (.t 32)) 43 (zs 34 (.faddr 10 (.t 3)) 44 (.step ⟨none, .store 1 (.t 34) (.t 33), 45, none, []⟩ .done))))
def L_expr_parser_cases : FC :=
 ⟨47, (.seq (.reg (zs 2 (.alloc 27 zE) 10 .done)) (.seq (.reg (zs 6 (.build zE [(0, 1, (.c (.int .i64 9)))]) 11 (zs 3 (.alloc 27 zE) 12 (.step ⟨none, .store 11 (.t 3) (.t 6), 13, none, []⟩ .done)))) (.seq (.seq (.reg (zs 7 (.move (.t 0)) 14 (zs 8 (.call false (.c (.fn 134 [] [])) [(.t 7), (.c (.int .i64 0)), (.c (.int .i64 2)), (.c (.str [119, 104, 101, 110]))]) 15 (zs 9 (.un .not (.t 8)) 16 .done)))) (.cond (.t 9) (.seq (.reg (zs 10 (.faddr 9 (.t 3)) 17 (.step ⟨none, .store 1 (.t 10) (.c (.bool true)), 18, none, []⟩ .done))) (.reg (zs 11 (.faddr 10 (.t 3)) 19 (zs 13 (.move (.t 0)) 21 (.alt (zs 12 (zl (.t 11)) 20 (zs 14 (.call false (.c (.fn 41 [] [])) [(.t 13)]) 22 zq1)) (zs 14 (.call false (.c (.fn 41 [] [])) [(.t 13)]) 22 (zs 12 (zl (.t 11)) 20 zq1))))))) .skip)) (.seq (.reg (zs 18 (.move (.t 0)) 27 (zs 19 (.call false (.c (.fn 136 [] [])) [(.t 18), (.c (.int .i64 2)), (.c (.str [119, 104, 101, 110]))]) 28 .done))) (.seq (.seq (.reg (zs 4 (.move (.c (.bool true))) 29 .done)) (.block 0 (.loop (.seq (.seq (.reg (zs 20 (.move (.t 4)) 30 .done)) (.cond (.t 20) .skip (.exit 0))) (.seq (.block 1 (.seq (.reg (zs 23 (.move (.t 0)) 31 (zs 24 (.call false (.c (.fn 41 [] [])) [(.t 23)]) 32 (zs 5 (.alloc 27 zE) 33 (.step ⟨none, .store 11 (.t 5) (.t 24), 34, none, []⟩ .done))))) (.seq (.reg (zs 25 (.move (.t 0)) 35 (zs 26 (.call false (.c (.fn 136 [] [])) [(.t 25), (.c (.int .i64 2)), (.c (.str [116, 104, 101, 110]))]) 36 .done))) (.reg (zs 27 (.faddr 10 (.t 3)) 37 (zs 29 (.load true 11 (.t 5)) 39 (zs 30 (.move (.t 0)) 40 (.alt (zs 28 (zl (.t 27)) 38 (.step ⟨(some 31), .call false (.c (.fn 41 [] [])) [(.t 30)], 41, none, [5]⟩ zq0)) (.step ⟨(some 31), .call false (.c (.fn 41 [] [])) [(.t 30)], 41, none, [5]⟩ (zs 28 (zl (.t 27)) 38 zq0)))))))))) (.reg (zs 21 (.move (.t 0)) 46 (zs 22 (.call false (.c (.fn 118 [] [])) [(.t 21), (.c (.str [119, 104, 101, 110]))]) 47 (zs 4 (.move (.t 22)) 48 .done))))))))) (.seq (.seq (.reg (zs 35 (.move (.t 0)) 49 (zs 36 (.call false (.c (.fn 118 [] [])) [(.t 35), (.c (.str [101, 108, 115, 101]))]) 50 .done))) (.cond (.t 36) (.reg (zs 37 (.faddr 10 (.t 3)) 51 (zs 39 (.move (.t 0)) 53 (.alt (zs 38 (zl (.t 37)) 52 (zs 40 (.call false (.c (.fn 41 [] [])) [(.t 39)]) 54 zq2)) (zs 40 (.call false (.c (.fn 41 [] [])) [(.t 39)]) 54 (zs 38 (zl (.t 37)) 52 zq2)))))) .skip)) (.seq (.reg (zs 44 (.move (.t 0)) 59 (zs 45 (.call false (.c (.fn 136 [] [])) [(.t 44), (.c (.int .i64 2)), (.c (.str [101, 110, 100]))]) 60 .done))) (.seq (.reg (zs 46 (.load true 11 (.t 3)) 61 (.step ⟨none, .store 11 (.t 2) (.t 46), 62, none, []⟩ .done))) .ret)))))))), [.cell 2 true 11]⟩
theorem zeY (G : Nat → V) : zaX Tryz.prog G 10 153 = some L_expr_parser_cases := by kernel_rfl
def L_expr_parser_cast : FC :=
 ⟨81, (.seq (.reg (zs 2 (.alloc 27 zE) 10 .done)) (.seq (.reg (zs 4 (.move (.t 0)) 11 (zs 5 (.call false (.c (.fn 136 [] [])) [(.t 4), (.c (.int .i64 4)), (.c (.str [40]))]) 12 .done))) (.seq (.reg (zs 6 (.move (.t 0)) 13 (zs 7 (.call false (.c (.fn 41 [] [])) [(.t 6)]) 14 (zs 8 (.bslice 27 11 [(.t 7)]) 15 (zs 9 (.build zE [(0, 1, (.c (.int .i64 12))), (10, 1, (.t 8))]) 16 (zs 3 (.alloc 27 zE) 17 (.step ⟨none, .store 11 (.t 3) (.t 9), 18, none, []⟩ .done))))))) (.seq (.reg (zs 10 (.move (.t 0)) 19 (zs 11 (.call false (.c (.fn 136 [] [])) [(.t 10), (.c (.int .i64 2)), (.c (.str [97, 115]))]) 20 .done))) (.seq (.seq (.reg (zs 12 (.move (.t 0)) 21 (zs 13 (.chk (.t 12)) 22 (zs 14 (.faddr 1 (.t 13)) 23 (zs 15 (zl (.t 14)) 24 (zs 16 (.move (.t 0)) 25 (zs 17 (.chk (.t 16)) 26 (zs 18 (.faddr 0 (.t 17)) 27 (zs 19 (zl (.t 18)) 28 (zs 20 (.lenl (.t 19)) 29 (zs 21 (za .lss (.t 15) (.t 20)) 30 (zs 22 (.move (.t 21)) 31 (.step ⟨(some 23), .move (.t 0), 32, (some (22, true)), []⟩ (.step ⟨(some 24), .chk (.t 23), 33, (some (22, true)), []⟩ (.step ⟨(some 25), .faddr 0 (.t 24), 34, (some (22, true)), []⟩ (.step ⟨(some 26), zl (.t 25), 35, (some (22, true)), []⟩ (.step ⟨(some 27), .move (.t 0), 36, (some (22, true)), []⟩ (.step ⟨(some 28), .chk (.t 27), 37, (some (22, true)), []⟩ (.step ⟨(some 29), .faddr 1 (.t 28), 38, (some (22, true)), []⟩ (.step ⟨(some 30), zl (.t 29), 39, (some (22, true)), []⟩ (.step ⟨(some 31), .iaddr 6 (.t 26) (.t 30), 40, (some (22, true)), []⟩ (.step ⟨(some 32), .faddr 0 (.t 31), 41, (some (22, true)), []⟩ (.step ⟨(some 33), zl (.t 32), 42, (some (22, true)), []⟩ (.step ⟨(some 34), za .eql (.t 33) (.c (.int .i64 2)), 43, (some (22, true)), []⟩ (.step ⟨(some 35), .move (.t 34), 44, (some (22, true)), []⟩ (.step ⟨(some 36), .move (.t 0), 45, (some (35, false)), []⟩ (.step ⟨(some 37), .chk (.t 36), 46, (some (35, false)), []⟩ (.step ⟨(some 38), .faddr 0 (.t 37), 47, (some (35, false)), []⟩ (.step ⟨(some 39), zl (.t 38), 48, (some (35, false)), []⟩ (.step ⟨(some 40), .move (.t 0), 49, (some (35, false)), []⟩ (.step ⟨(some 41), .chk (.t 40), 50, (some (35, false)), []⟩ (.step ⟨(some 42), .faddr 1 (.t 41), 51, (some (35, false)), []⟩ (.step ⟨(some 43), zl (.t 42), 52, (some (35, false)), []⟩ (.step ⟨(some 44), .iaddr 6 (.t 39) (.t 43), 53, (some (35, false)), []⟩ (.step ⟨(some 45), .faddr 0 (.t 44), 54, (some (35, false)), []⟩ (.step ⟨(some 46), zl (.t 45), 55, (some (35, false)), []⟩ (.step ⟨(some 47), za .eql (.t 46) (.c (.int .i64 1)), 56, (some (35, false)), []⟩ (.step ⟨(some 48), .pick (.t 35) (.c (.bool true)) (.t 47), 57, (some (22, true)), []⟩ (zs 49 (.pick (.t 22) (.t 48) (.c (.bool false))) 58 .done))))))))))))))))))))))))))))))))))))))) (.cond (.t 49) (.reg (zs 50 (.move (.t 0)) 59 (zs 51 (.chk (.t 50)) 60 (zs 52 (.faddr 0 (.t 51)) 61 (zs 53 (zl (.t 52)) 62 (zs 54 (.move (.t 0)) 63 (zs 55 (.chk (.t 54)) 64 (zs 56 (.faddr 1 (.t 55)) 65 (zs 57 (zl (.t 56)) 66 (zs 58 (.iaddr 6 (.t 53) (.t 57)) 67 (zs 59 (.faddr 1 (.t 58)) 68 (zs 60 (zl (.t 59)) 69 (zs 61 (zc 64 [(.t 60)]) 70 (zs 62 (.faddr 1 (.t 3)) 71 (.step ⟨none, .store 1 (.t 62) (.t 61), 72, none, []⟩ .done))))))))))))))) .skip)) (.seq (.seq (.reg (zs 63 (.faddr 1 (.t 3)) 73 (zs 64 (zl (.t 63)) 74 .done))) (.block 0 (.seq (.seq (.reg (zs 68 (za .eql (.t 64) (.c (.str [105, 110, 116]))) 75 (zs 67 (.move (.t 68)) 76 .done))) (.cond (.t 67) .skip (.seq (.reg (zs 69 (za .eql (.t 64) (.c (.str [116, 101, 120, 116]))) 77 (zs 67 (.move (.t 69)) 78 .done))) (.cond (.t 67) .skip (.reg (zs 70 (za .eql (.t 64) (.c (.str [98, 108, 111, 98]))) 79 (zs 67 (.move (.t 70)) 80 .done))))))) (.cond (.t 67) (.reg (zs 71 (.move (.t 0)) 81 (zs 72 (.chk (.t 71)) 82 (zs 73 (.faddr 1 (.t 72)) 83 (zs 74 (zl (.t 73)) 84 (zs 75 (za .add (.t 74) (.c (.int .i64 1))) 85 (zs 76 (.chk (.t 71)) 86 (zs 77 (.faddr 1 (.t 76)) 87 (.step ⟨none, .store 1 (.t 77) (.t 75), 88, none, []⟩ .done))))))))) (.reg (zs 65 (.move (.t 0)) 89 (zs 66 (.call false (.c (.fn 144 [] [])) [(.t 65)]) 90 .done))))))) (.seq (.reg (zs 78 (.move (.t 0)) 91 (zs 79 (.call false (.c (.fn 136 [] [])) [(.t 78), (.c (.int .i64 4)), (.c (.str [41]))]) 92 .done))) (.seq (.reg (zs 80 (.load true 11 (.t 3)) 93 (.step ⟨none, .store 11 (.t 2) (.t 80), 94, none, []⟩ .done))) .ret)))))))), [.cell 2 true 11]⟩
theorem zfA (G : Nat → V) : zaX Tryz.prog G 10 154 = some L_expr_parser_cast := by kernel_rfl
def L_expr_parser_call : FC :=
 ⟨45, (.seq (.reg (zs 4 (.alloc 27 zE) 10 .done)) (.seq (.seq (.reg (zs 7 (.move (.t 1)) 11 .done)) (.block 0 (.seq (.seq (.reg (zs 9 (za .eql (.t 7) (.c (.str [99, 111, 117, 110, 116]))) 12 (zs 8 (.move (.t 9)) 13 .done))) (.cond (.t 8) .skip (.seq (.reg (zs 10 (za .eql (.t 7) (.c (.str [115, 117, 109]))) 14 (zs 8 (.move (.t 10)) 15 .done))) (.cond (.t 8) .skip (.seq (.reg (zs 11 (za .eql (.t 7) (.c (.str [109, 105, 110]))) 16 (zs 8 (.move (.t 11)) 17 .done))) (.cond (.t 8) .skip (.seq (.reg (zs 12 (za .eql (.t 7) (.c (.str [109, 97, 120]))) 18 (zs 8 (.move (.t 12)) 19 .done))) (.cond (.t 8) .skip (.seq (.reg (zs 13 (za .eql (.t 7) (.c (.str [97, 118, 103]))) 20 (zs 8 (.move (.t 13)) 21 .done))) (.cond (.t 8) .skip (.reg (zs 14 (za .eql (.t 7) (.c (.str [116, 111, 116, 97, 108]))) 22 (zs 8 (.move (.t 14)) 23 .done))))))))))))) (.cond (.t 8) (.seq (.reg (zs 15 (.move (.t 1)) 24 (zs 16 (.build zE [(0, 1, (.c (.int .i64 11))), (1, 1, (.t 15))]) 25 (zs 5 (.alloc 27 zE) 26 (.step ⟨none, .store 11 (.t 5) (.t 16), 27, none, []⟩ .done))))) (.seq (.seq (.reg (zs 17 (.move (.t 1)) 28 (zs 18 (za .eql (.t 17) (.c (.str [99, 111, 117, 110, 116]))) 29 (zs 19 (.move (.t 18)) 30 (.step ⟨(some 20), .move (.t 0), 31, (some (19, true)), []⟩ (.step ⟨(some 21), .call false (.c (.fn 145 [] [])) [(.t 20), (.c (.str [42]))], 32, (some (19, true)), []⟩ (zs 22 (.pick (.t 19) (.t 21) (.c (.bool false))) 33 .done))))))) (.cond (.t 22) (.seq (.reg (zs 23 (.move (.t 0)) 34 (zs 24 (.call false (.c (.fn 136 [] [])) [(.t 23), (.c (.int .i64 4)), (.c (.str [41]))]) 35 .done))) (.seq (.reg (zs 25 (.load true 11 (.t 5)) 36 (.step ⟨none, .store 11 (.t 4) (.t 25), 37, none, []⟩ .done))) .ret)) .skip)) (.seq (.reg (zs 26 (.move (.t 0)) 38 (zs 27 (.call false (.c (.fn 118 [] [])) [(.t 26), (.c (.str [100, 105, 115, 116, 105, 110, 99, 116]))]) 39 (zs 28 (.faddr 9 (.t 5)) 40 (.step ⟨none, .store 1 (.t 28) (.t 27), 41, none, []⟩ .done))))) (.seq (.reg (zs 29 (.move (.t 0)) 42 (zs 30 (.call false (.c (.fn 41 [] [])) [(.t 29)]) 43 (zs 31 (.bslice 27 11 [(.t 30)]) 44 (zs 32 (.faddr 10 (.t 5)) 45 (.step ⟨none, .store 1 (.t 32) (.t 31), 46, none, []⟩ .done)))))) (.seq (.reg (zs 33 (.move (.t 0)) 47 (zs 34 (.call false (.c (.fn 136 [] [])) [(.t 33), (.c (.int .i64 4)), (.c (.str [41]))]) 48 .done))) (.seq (.reg (zs 35 (.load true 11 (.t 5)) 49 (.step ⟨none, .store 11 (.t 4) (.t 35), 50, none, []⟩ .done))) .ret)))))) .skip)))) (.seq (.reg (zs 36 (.move (.t 1)) 51 (zs 37 (.build zE [(0, 1, (.c (.int .i64 10))), (1, 1, (.t 36))]) 52 (zs 6 (.alloc 27 zE) 53 (.step ⟨none, .store 11 (.t 6) (.t 37), 54, none, []⟩ .done))))) (.seq (.seq (.reg (zs 38 (.move (.t 0)) 55 (zs 39 (.call false (.c (.fn 145 [] [])) [(.t 38), (.c (.str [41]))]) 56 (zs 40 (.un .not (.t 39)) 57 .done)))) (.cond (.t 40) (.reg (zs 41 (.move (.t 0)) 58 (zs 42 (.call false (.c (.fn 137 [] [])) [(.t 41)]) 59 (zs 43 (.faddr 10 (.t 6)) 60 (.step ⟨none, .store 1 (.t 43) (.t 42), 61, none, []⟩ .done))))) .skip)) (.seq (.reg (zs 44 (.load true 11 (.t 6)) 62 (.step ⟨none, .store 11 (.t 4) (.t 44), 63, none, []⟩ .done))) .ret))))), [.cell 4 true 11]⟩
theorem zfB (G : Nat → V) : zaX Tryz.prog G 10 155 = some L_expr_parser_call := by kernel_rfl
end Go.Proofs.YtakegkongmnekaaGreatDoor
namespace Go.Proofs.YtakegkongmnekaaGreatDoor
open Go.RowKit
open Vm
def tokM (t : Lx.TA) : Vm.V := .agg [.int .i64 t.1.kind, .str t.1.text, .int .i64 t.1.val.1, .int .i64 t.1.val.2.1, .str t.1.val.2.2, .int .i64 (t.2 : Int)]
def prsE (L : List Lx.TA) (p : Nat) : Ent := .blk 63 [.list (L.map tokM), .int .i64 (p : Int)]
set_option maxHeartbeats 2000000 in
theorem m_is (G : Nat → Vm.V) (L : List Lx.TA) (p a : Nat) (k : Int) (s : List UInt8) (hL : L.length ≤ 999999) (hp : p ≤ L.length) (ha : a ≤ 2) :
  zaN Tryz.prog G 134 [.ptr 0 0, .int .i64 (a : Int), .int .i64 k, .str s] [prsE L p] fun o es => o = .ret (.bool (Ex.isT (L.map (·.1)) (p + a) k s)) ∧ es = [prsE L p] := by
 refine zaM (zgE G) (by simp) (by simp [L_expr_parser_is]) ?_
 show wpC _ _ 1 (panK 1 _) _ (retK 1 _ _) (mkX [(0, _), (1, _), (2, _), (3, _)] [(0, _)])
 simp only [L_expr_parser_is, zs, za, zl, zc, zE, prsE]
 cases hlt : decide (p + a < L.length)
 ·have h1 : ¬ p + a < L.length := of_decide_eq_false hlt
  have h2 : L[p + a]? = none := by simp; omega
  have h3 : ((p : Int) + (a : Int) < (L.length : Int)) = False := by simp; omega
  clear hlt
  refine wk ?_
  refine rt ?_
  simp [Ex.isT, h2]
 ·have h1 : p + a < L.length := of_decide_eq_true hlt
  obtain ⟨t, h2⟩ : ∃ t, L[p + a]? = some t := ⟨_, List.getElem?_eq_getElem h1⟩
  have h3 : ((p : Int) + (a : Int) < (L.length : Int)) = True := by simp; omega
  have h4 : ((p : Int) + (a : Int)).toNat = p + a := by omega
  have h5 : (0 : Int) ≤ (p : Int) + (a : Int) := by omega
  have h6 : (tokM t).size = 6 := rfl
  have h7 : tokM t = .agg [.int .i64 t.1.kind, .str t.1.text, .int .i64 t.1.val.1, .int .i64 t.1.val.2.1, .str t.1.val.2.2, .int .i64 (t.2 : Int)] := rfl
  clear hlt h1
  cases hk : t.1.kind == k
  ·have hk' : (t.1.kind = k) = False := by simpa using hk
   refine wk ?_
   refine rt ?_
   simp [Ex.isT, h2, hk']
  ·have hk' : (t.1.kind = k) = True := by simpa using hk
   refine wk ?_
   refine rt ?_
   simp [Ex.isT, h2, hk']
end Go.Proofs.YtakegkongmnekaaGreatDoor
namespace Go.Proofs.YtakegkongmnekaaGreatDoor
open Go.RowKit
open Vm
def ziY (p : Nat) : Vm.V := .iface 59 (.agg [.int .i64 (p : Int)])
theorem isT_lt {L : List Lx.T} {p : Nat} {k : Int} {s : List UInt8} (h : Ex.isT L p k s = true) : p < L.length := by
 rcases Nat.lt_or_ge p L.length with h1 | h1
 ·exact h1
 ·simp [Ex.isT, h1] at h
set_option maxHeartbeats 2000000 in
theorem zmu (G : Nat → Vm.V) (L : List Lx.TA) (p : Nat) (k : Int) (s : List UInt8) (hL : L.length ≤ 999999) (hp : p ≤ L.length) :
  zaN Tryz.prog G 117 [.ptr 0 0, .int .i64 k, .str s] [prsE L p] fun o es => o = .ret (.bool (Ex.isT (L.map (·.1)) p k s)) ∧ es = [prsE L (if Ex.isT (L.map (·.1)) p k s then p + 1 else p)] := by
 refine zaM (zft G) (by simp) (by simp [L_expr_parser_take]) ?_
 show wpC _ _ 1 (panK 1 _) _ (retK 1 _ _) (mkX [(0, _), (1, _), (2, _)] [(0, _)])
 simp only [L_expr_parser_take, zs, za, zl, zc, zE]
 refine wk ?_
 refine cp 0 (m_is G L p 0 k s hL hp (by omega)) ?_
 rintro o e' ⟨rfl, he⟩
 simp only [List.cons.injEq, and_true] at he
 subst he
 rw [Nat.add_zero]
 show wpR _ _ _ _ _ (X.put _ _ _ [(0, prsE L p)])
 simp only [prsE]
 cases hq : Ex.isT (L.map (·.1)) p k s
 ·refine wk ?_
  refine rt ?_
  simp
 ·have hlt : p < L.length := by simpa using isT_lt hq
  refine wk ?_
  refine rt ?_
  simp
theorem m_word (G : Nat → Vm.V) (L : List Lx.TA) (p : Nat) (s : List UInt8) (hL : L.length ≤ 999999) (hp : p ≤ L.length) :
  zaN Tryz.prog G 118 [.ptr 0 0, .str s] [prsE L p] fun o es => o = .ret (.bool (Ex.isT (L.map (·.1)) p 2 s)) ∧ es = [prsE L (if Ex.isT (L.map (·.1)) p 2 s then p + 1 else p)] := by
 refine zaM (zfs G) (by simp) (by simp [L_expr_parser_word]) ?_
 show wpC _ _ 1 (panK 1 _) _ (retK 1 _ _) (mkX [(0, _), (1, _)] [(0, _)])
 simp only [L_expr_parser_word, zs, za, zl, zc, zE]
 refine wk ?_
 refine cp 0 (zmu G L p 2 s hL hp) ?_
 rintro o e' ⟨rfl, he⟩
 simp only [List.cons.injEq, and_true] at he
 subst he
 show wpR _ _ _ _ _ (X.put _ _ _ [(0, prsE L _)])
 simp only [prsE]
 refine wk ?_
 refine rt ?_
 simp
theorem m_mark (G : Nat → Vm.V) (L : List Lx.TA) (p : Nat) (s : List UInt8) (hL : L.length ≤ 999999) (hp : p ≤ L.length) :
  zaN Tryz.prog G 145 [.ptr 0 0, .str s] [prsE L p] fun o es => o = .ret (.bool (Ex.isT (L.map (·.1)) p 4 s)) ∧ es = [prsE L (if Ex.isT (L.map (·.1)) p 4 s then p + 1 else p)] := by
 refine zaM (zfv G) (by simp) (by simp [L_expr_parser_mark]) ?_
 show wpC _ _ 1 (panK 1 _) _ (retK 1 _ _) (mkX [(0, _), (1, _)] [(0, _)])
 simp only [L_expr_parser_mark, zs, za, zl, zc, zE]
 refine wk ?_
 refine cp 0 (zmu G L p 4 s hL hp) ?_
 rintro o e' ⟨rfl, he⟩
 simp only [List.cons.injEq, and_true] at he
 subst he
 show wpR _ _ _ _ _ (X.put _ _ _ [(0, prsE L _)])
 simp only [prsE]
 refine wk ?_
 refine rt ?_
 simp
theorem zdF (G : Nat → Vm.V) (L : List Lx.TA) (p : Nat) :
  zaN Tryz.prog G 144 [.ptr 0 0] [prsE L p] fun o es => o = .panic (ziY p) ∧ es = [prsE L p] := by
 refine zaM (zeU G) (by simp) (by simp [L_expr_parser_wrong]) ?_
 show wpC _ _ 1 (panK 1 _) _ (retK 1 _ _) (mkX [(0, _)] [(0, _)])
 simp only [L_expr_parser_wrong, zs, za, zl, zc, zE, prsE]
 refine wk ?_
 refine vp ?_; refine pq ?_
 simp [ziY]
theorem m_must (G : Nat → Vm.V) (L : List Lx.TA) (p : Nat) (k : Int) (s : List UInt8) (hL : L.length ≤ 999999) (hp : p ≤ L.length) :
  zaN Tryz.prog G 136 [.ptr 0 0, .int .i64 k, .str s] [prsE L p] fun o es => if Ex.isT (L.map (·.1)) p k s then o = .ret (.tup []) ∧ es = [prsE L (p + 1)] else o = .panic (ziY p) ∧ es = [prsE L p] := by
 refine zaM (zfu G) (by simp) (by simp [L_expr_parser_must]) ?_
 show wpC _ _ 1 (panK 1 _) _ (retK 1 _ _) (mkX [(0, _), (1, _), (2, _)] [(0, _)])
 simp only [L_expr_parser_must, zs, za, zl, zc, zE]
 refine wk ?_
 refine cp 0 (zmu G L p k s hL hp) ?_
 rintro o e' ⟨rfl, he⟩
 simp only [List.cons.injEq, and_true] at he
 subst he
 show wpR _ _ _ _ _ (X.put _ _ _ [(0, prsE L _)])
 cases hq : Ex.isT (L.map (·.1)) p k s
 ·refine wk ?_
  refine cp 0 (zdF G L p) ?_
  rintro o e' ⟨rfl, he⟩
  simp only [List.cons.injEq, and_true] at he
  subst he
  refine pq ?_
  simp
  rfl
 ·refine wk ?_
  refine nm ?_
  simp
end Go.Proofs.YtakegkongmnekaaGreatDoor
namespace Go.Proofs.YtakegkongmnekaaGreatDoor
open Go.RowKit
open Vm
def oneM (L : List Lx.TA) (p : Nat) (r : Option (List UInt8)) (o : POut) (es : List Ent) : Prop := match r with
 | some s => o = .ret (.tup [.str s, .bool true]) ∧ es = [prsE L (p + 1)]
 | none => o = .ret (.tup [.str [], .bool false]) ∧ es = [prsE L p]
set_option maxHeartbeats 2000000 in
theorem m_one (G : Nat → Vm.V) (L : List Lx.TA) (p : Nat) (k : Int) (l : List (List UInt8)) (hL : L.length ≤ 999999) (hp : p ≤ L.length) (hl : l.length ≤ 9) :
  zaN Tryz.prog G 94 [.ptr 0 0, .int .i64 k, .list (l.map Vm.V.str)] [prsE L p] (oneM L p (Ex.oneOf (L.map (·.1)) p k l)) := by
 refine zaM (zgf G) (by simp) (by simp [L_expr_parser_one]) ?_
 show wpC _ _ 1 (panK 1 _) _ (retK 1 _ _) (mkX [(0, _), (1, _), (2, _)] [(0, _)])
 simp only [L_expr_parser_one, zs, za, zl, zc, zE, prsE]
 have hpr : ∀ q f, (prsE L q).on f = true := fun _ _ => rfl
 refine wk ?_
 refine ziK [0, 1, 10, 11, 12] [0] (fun y => ∃ i : Nat, i ≤ l.length ∧ y = mkX [(0, .ptr 0 0), (1, .int .i64 k), (10, .list (l.map Vm.V.str)), (11, .int .i64 (l.length : Int)), (12, .int .i64 (i : Int))] [(0, prsE L p)] ∧ Ex.oneOf (L.map (·.1)) p k l = Ex.oneOf (L.map (·.1)) p k (l.drop i))
  (fun y => match y.env 12 with | .int _ n => l.length - n.toNat | _ => 0) lo ⟨0, Nat.zero_le _, le, rfl⟩ ?_
 rintro y ⟨i, hi, rfl, hone⟩
 rcases Nat.lt_or_ge i l.length with hlt | hge
 ·have hd : l.drop i = l[i] :: l.drop (i + 1) := List.drop_eq_getElem_cons hlt
  rw [hd, Ex.oneOf] at hone
  have h1 : ((i : Int) < (l.length : Int)) = True := by simp; omega
  have h2 : l[i]? = some l[i] := List.getElem?_eq_getElem hlt
  generalize hs : l[i] = s at h2 hone
  have hlt' := hlt
  clear hd
  refine wk ?_
  refine cp 0 (zmu G L p k s hL hp) ?_
  rintro o e' ⟨rfl, he⟩
  simp only [List.cons.injEq, and_true] at he
  subst he
  show wpR _ _ _ _ _ (X.put _ _ _ [(0, prsE L _)])
  cases hq : Ex.isT (L.map (·.1)) p k s
  ·rw [hq, if_neg (by simp)] at hone
   refine wk ?_
   refine ⟨lo, ⟨i + 1, hlt', le, hone⟩, ?_⟩
   rw [zbi]
   simp [envL, stL, ↓zaj, ↓zak, ↓zar, ↓zaq, ↓zap, ↓zas, ↓zaz, ↓zab, ↓zae, ↓zaa, ↓zac, ↓ev_t, ↓ev_c]
   omega
  ·rw [hq, if_pos rfl] at hone
   rw [hone]
   refine wk ?_
   refine rt ?_
   simp [oneM]
 ·have h1 : ((i : Int) < (l.length : Int)) = False := by simp; omega
  have hd : l.drop i = [] := List.drop_eq_nil_of_le hge
  rw [hd] at hone
  clear hd
  rw [hone]
  refine wk ?_
  refine rt ?_
  simp [oneM, Ex.oneOf]
def tok0 : Vm.V := .agg [.int .i64 0, .str [], .int .i64 0, .int .i64 0, .str [], .int .i64 0]
def zlv (L : List Lx.TA) (p : Nat) (k : Int) (o : POut) (es : List Ent) : Prop := match L[p]? with
 | some t => if t.1.kind = k then o = .ret (.tup [tokM t, .bool true]) ∧ es = [prsE L (p + 1)] else o = .ret (.tup [tok0, .bool false]) ∧ es = [prsE L p]
 | none => o = .ret (.tup [tok0, .bool false]) ∧ es = [prsE L p]
set_option maxHeartbeats 2000000 in
theorem m_kind (G : Nat → Vm.V) (L : List Lx.TA) (p : Nat) (k : Int) (hL : L.length ≤ 999999) (hp : p ≤ L.length) :
  zaN Tryz.prog G 151 [.ptr 0 0, .int .i64 k] [prsE L p] (zlv L p k) := by
 refine zaM (zfx G) (by simp) (by simp [L_expr_parser_kind]) ?_
 show wpC _ _ 1 (panK 1 _) _ (retK 1 _ _) (mkX [(0, _), (1, _)] [(0, _)])
 simp only [L_expr_parser_kind, zs, za, zl, zc, zE, prsE]
 cases h2 : L[p]? with
 | none =>
  have h1 : ((L.length : Int) ≤ (p : Int)) = True := by simp at h2 ⊢; omega
  have h3 : L.length ≤ p := by simpa using h2
  refine wk ?_
  refine rt ?_
  simp [zlv, h2, tok0, prsE]
 | some t =>
  have hlt : p < L.length := (List.getElem?_eq_some_iff.1 h2).1
  have h1 : ((L.length : Int) ≤ (p : Int)) = False := by simp; omega
  have h3 : (L.length ≤ p) = False := by simp; omega
  have h7 : tokM t = .agg [.int .i64 t.1.kind, .str t.1.text, .int .i64 t.1.val.1, .int .i64 t.1.val.2.1, .str t.1.val.2.2, .int .i64 (t.2 : Int)] := rfl
  clear hlt
  cases hk : t.1.kind == k
  ·have hk' : (t.1.kind = k) = False := by simpa using hk
   refine wk ?_
   refine rt ?_
   simp [zlv, h2, hk', tok0, prsE]
  ·have hk' : (t.1.kind = k) = True := by simpa using hk
   refine wk ?_
   refine rt ?_
   simp [zlv, h2, hk', tokM, prsE]
structure Kee (B : Prop) : Prop where
 out : B
open Vm in
theorem kp {A B R : Prop} (hc : R) (hB : B) (hA : R → Kee B → A := by
 intro hc h
 refine cp 0 hc ?_
 rintro o e' ⟨rfl, he⟩
 simp only [List.cons.injEq, and_true] at he
 subst he
 show wpR _ _ _ _ _ (X.put _ _ _ [(0, prsE _ _)])
 exact h.out) : A := hA hc ⟨hB⟩
open Vm in
theorem kw {A B R : Prop} (hc : R) (hB : B) (hA : R → Kee B → A := by
 intro hc h
 refine cp 0 hc ?_
 rintro o e' ⟨rfl, he⟩
 simp only [List.cons.injEq, and_true] at he
 subst he
 show wpR _ _ _ _ _ (X.put _ _ _ [(0, prsE _ _)])
 refine wk ?_
 exact h.out) : A := hA hc ⟨hB⟩
end Go.Proofs.YtakegkongmnekaaGreatDoor
namespace Go.Proofs.YtakegkongmnekaaGreatDoor
open Go.RowKit
open Vm
def expC : Ex.E → List Vm.V
 | .mk k op v t n s ng d l => [.int .i64 k, .str op, .int .i64 v.1, .int .i64 v.2.1, .str v.2.2, .str t, .str n, .int .i64 s, .bool ng, .bool d, .list (l.map fun e => .agg (expC e))]
theorem expC_length (e : Ex.E) : (expC e).length = 11 := by cases e; simp [expC]
theorem expC_one (e : Ex.E) : (expC e).all V.one = true := by cases e; simp [expC, V.one]
theorem expC_data (e : Ex.E) : (expC e).all V.data = true := by cases e; simp [expC, V.data]
theorem zhO (e : Ex.E) : (expC e).take 11 = expC e := by cases e; simp [expC]
theorem expC_drop (e : Ex.E) : (expC e).drop 11 = [] := by cases e; simp [expC]
theorem expC_res (st : Nat → Ent) (e : Ex.E) : (expC e).map (res st) = expC e := by cases e; simp [expC, res]
theorem expC_norm (e : Ex.E) : (expC e).map norm0 = expC e := by cases e; simp [expC, norm0]
theorem expC_on (p : Nat → Bool) (e : Ex.E) : (expC e).all (V.on p) = true := by cases e; simp [expC, V.on]
def zh3 (L : List Lx.TA) (r : Ex.R) (o : POut) (es : List Ent) : Prop := match r with
 | .ok [e] q => o = .ret (.agg (expC e)) ∧ es = [prsE L q] ∧ q ≤ L.length
 | .ok _ _ => False
 | .stop q => o = .panic (ziY q) ∧ es = [prsE L q] ∧ q ≤ L.length
def listM (L : List Lx.TA) (r : Ex.R) (o : POut) (es : List Ent) : Prop := match r with
 | .ok l q => o = .ret (.list (l.map fun e => .agg (expC e))) ∧ es = [prsE L q] ∧ q ≤ L.length ∧ l.length ≤ L.length
 | .stop q => o = .panic (ziY q) ∧ es = [prsE L q] ∧ q ≤ L.length
abbrev Lvl (G : Nat → Vm.V) (L : List Lx.TA) (f : FuncId) (lev n : Nat) : Prop := ∀ (m p : Nat) (r : Ex.R), m ≤ n → p ≤ L.length → Ex.run (L.map (·.1)) m (.lev lev) p = some r → zaN Tryz.prog G f [.ptr 0 0] [prsE L p] (zh3 L r)
section
variable {G : Nat → Vm.V} {L : List Lx.TA} {p : Nat}
theorem za1 {s : List UInt8} (hL : L.length ≤ 999999) (h : Ex.isT (L.map (·.1)) p 2 s = true) : zaN Tryz.prog G 118 [.ptr 0 0, .str s] [prsE L p] fun o es => o = .ret (.bool true) ∧ es = [prsE L (p + 1)] := by
 have := m_word G L p s hL (Nat.le_of_lt (by simpa using isT_lt h))
 rwa [h] at this
theorem zaP {s : List UInt8} (hL : L.length ≤ 999999) (hp : p ≤ L.length) (h : Ex.isT (L.map (·.1)) p 2 s = false) : zaN Tryz.prog G 118 [.ptr 0 0, .str s] [prsE L p] fun o es => o = .ret (.bool false) ∧ es = [prsE L p] := by
 have := m_word G L p s hL hp
 rwa [h] at this
theorem zdG {s : List UInt8} (hL : L.length ≤ 999999) (h : Ex.isT (L.map (·.1)) p 4 s = true) : zaN Tryz.prog G 145 [.ptr 0 0, .str s] [prsE L p] fun o es => o = .ret (.bool true) ∧ es = [prsE L (p + 1)] := by
 have := m_mark G L p s hL (Nat.le_of_lt (by simpa using isT_lt h))
 rwa [h] at this
theorem zcK {s : List UInt8} (hL : L.length ≤ 999999) (hp : p ≤ L.length) (h : Ex.isT (L.map (·.1)) p 4 s = false) : zaN Tryz.prog G 145 [.ptr 0 0, .str s] [prsE L p] fun o es => o = .ret (.bool false) ∧ es = [prsE L p] := by
 have := m_mark G L p s hL hp
 rwa [h] at this
theorem zaG {k : Int} {s : List UInt8} (hL : L.length ≤ 999999) (h : Ex.isT (L.map (·.1)) p k s = true) : zaN Tryz.prog G 136 [.ptr 0 0, .int .i64 k, .str s] [prsE L p] fun o es => o = .ret (.tup []) ∧ es = [prsE L (p + 1)] := by
 have := m_must G L p k s hL (Nat.le_of_lt (by simpa using isT_lt h))
 rwa [h] at this
theorem zaH {k : Int} {s : List UInt8} (hL : L.length ≤ 999999) (hp : p ≤ L.length) (h : Ex.isT (L.map (·.1)) p k s = false) : zaN Tryz.prog G 136 [.ptr 0 0, .int .i64 k, .str s] [prsE L p] fun o es => o = .panic (ziY p) ∧ es = [prsE L p] := by
 have := m_must G L p k s hL hp
 rwa [h] at this
theorem zeC {a : Nat} {k : Int} {s : List UInt8} {b : Bool} (hL : L.length ≤ 999999) (hp : p ≤ L.length) (ha : a ≤ 2) (h : Ex.isT (L.map (·.1)) (p + a) k s = b) : zaN Tryz.prog G 134 [.ptr 0 0, .int .i64 (a : Int), .int .i64 k, .str s] [prsE L p] fun o es => o = .ret (.bool b) ∧ es = [prsE L p] := by
 have := m_is G L p a k s hL hp ha
 rwa [h] at this
theorem zjx {k : Int} {l : List (List UInt8)} {s : List UInt8} (hL : L.length ≤ 999999) (hp : p ≤ L.length) (hl : l.length ≤ 9) (h : Ex.oneOf (L.map (·.1)) p k l = some s) : zaN Tryz.prog G 94 [.ptr 0 0, .int .i64 k, .list (l.map Vm.V.str)] [prsE L p] fun o es => o = .ret (.tup [.str s, .bool true]) ∧ es = [prsE L (p + 1)] := by
 have := m_one G L p k l hL hp hl
 rwa [h] at this
theorem zlt {k : Int} {l : List (List UInt8)} (hL : L.length ≤ 999999) (hp : p ≤ L.length) (hl : l.length ≤ 9) (h : Ex.oneOf (L.map (·.1)) p k l = none) : zaN Tryz.prog G 94 [.ptr 0 0, .int .i64 k, .list (l.map Vm.V.str)] [prsE L p] fun o es => o = .ret (.tup [.str [], .bool false]) ∧ es = [prsE L p] := by
 have := m_one G L p k l hL hp hl
 rwa [h] at this
theorem zjy {k : Int} {t : Lx.TA} (hL : L.length ≤ 999999) (hp : p ≤ L.length) (h : L[p]? = some t) (hk : t.1.kind = k) : zaN Tryz.prog G 151 [.ptr 0 0, .int .i64 k] [prsE L p] fun o es => o = .ret (.tup [tokM t, .bool true]) ∧ es = [prsE L (p + 1)] :=
 (m_kind G L p k hL hp).mono fun o es ho => by simpa only [zlv, h, hk, if_true] using ho
theorem zeq {k : Int} (hL : L.length ≤ 999999) (hp : p ≤ L.length) (h : ∀ t, L[p]? = some t → t.1.kind ≠ k) : zaN Tryz.prog G 151 [.ptr 0 0, .int .i64 k] [prsE L p] fun o es => o = .ret (.tup [tok0, .bool false]) ∧ es = [prsE L p] :=
 (m_kind G L p k hL hp).mono fun o es ho => by
  cases hq : L[p]? with
  | none => simpa only [zlv, hq] using ho
  | some t => simpa only [zlv, hq, if_neg (h t hq)] using ho
end
theorem zx : type_of% (And.intro expC_length (And.intro expC_one (And.intro expC_data (And.intro zhO (And.intro expC_drop (And.intro expC_res (And.intro expC_norm expC_on))))))) := (And.intro expC_length (And.intro expC_one (And.intro expC_data (And.intro zhO (And.intro expC_drop (And.intro expC_res (And.intro expC_norm expC_on)))))))
end Go.Proofs.YtakegkongmnekaaGreatDoor
namespace Go.Proofs.YtakegkongmnekaaGreatDoor
open Go.RowKit
open Vm
def atM (x : X) : Nat := match x.st 0 with | .blk _ [_, .int _ n] => 1000000 - n.toNat | _ => 0
set_option maxHeartbeats 4000000 in
theorem zhH {G : Nat → Vm.V} {L : List Lx.TA} {f : FuncId} {k n : Nat} (hL : L.length ≤ 999999) (hf : Lvl G L f (k + 1) n) (m p : Nat) (r : Ex.R) (ol : List (List UInt8)) (ok : Int) (hol : Ex.ops k = (ol, ok)) (hl : ol.length ≤ 9) (hm : m ≤ n) (hp : p ≤ L.length)
  (hr : Ex.then1 (Ex.run (L.map (·.1)) m (.lev (k + 1)) p) (fun e q => Ex.run (L.map (·.1)) m (.chain k e) q) = some r) :
  zaN Tryz.prog G 68 [.ptr 0 0, .fn f [.ptr 0 0] [], .int .i64 ok, .list (ol.map Vm.V.str)] [prsE L p] (zh3 L r) := by
 refine zaM (zeX G) (by simp) (by simp [L_expr_parser_chain]) ?_
 show wpC _ _ 1 (panK 1 _) _ (retK 1 _ _) (mkX [(0, _), (1, _), (2, _), (3, _)] [(0, _)])
 simp only [L_expr_parser_chain, zs, za, zl, zc, zE, prsE]
 have x0 := zx; have hpr : ∀ q f, (prsE L q).on f = true := fun _ _ => rfl
 rcases Ex.then1_some hr with ⟨e, q, h1, h2⟩ | ⟨q, h1, rfl⟩
 ·refine wk ?_
  refine cp 0 (hf m p _ hm hp h1) ?_
  rintro o e' ⟨rfl, he, hq⟩
  simp only [List.cons.injEq, and_true] at he
  subst he
  show wpR _ _ _ _ _ (X.put _ _ _ [(0, prsE L _)])
  refine wk ?_
  refine ziK [0, 1, 2, 3, 8, 9] [0, 10, 13] (fun y => ∃ (m' p' : Nat) (e' : Ex.E), m' ≤ n ∧ p' ≤ L.length ∧ Ex.run (L.map (·.1)) m' (.chain k e') p' = some r ∧ y = mkX [(0, .ptr 0 0), (1, .fn f [.ptr 0 0] []), (2, .int .i64 ok), (3, .list (ol.map Vm.V.str)), (8, .ptr 10 0), (9, .ptr 13 0)] [(0, prsE L p'), (10, .blk 27 [.int .i64 0, .str [], .int .i64 0, .int .i64 0, .str [], .str [], .str [], .int .i64 0, .bool false, .bool false, .nils]), (13, .blk 27 (expC e'))]) atM lo ⟨m, q, e, hm, hq, h2, le⟩ ?_
  clear hr h1 h2 hq e q hp hm
  rintro y ⟨m', p', e', hm, hp, hr, rfl⟩
  cases m' with
  | zero => cases hr
  | succ m' =>
   rw [Ex.run, hol] at hr
   dsimp only at hr
   cases hone : Ex.oneOf (L.map (·.1)) p' ok ol with
   | none =>
    rw [hone] at hr
    cases hr
    simp only [prsE]
    refine wk ?_
    refine kp (zlt hL hp hl hone) ?_
    simp only [prsE]
    refine wk ?_
    refine rt ?_
    exact ⟨rfl, rfl, hp⟩
   | some op =>
    rw [hone] at hr
    dsimp only at hr
    have hlt : p' < L.length := by simpa using (Ex.zaB hone).1
    simp only [prsE]
    rcases Ex.then1_some hr with ⟨b, q, h1, h2⟩ | ⟨q, h1, rfl⟩
    ·have hfw := Ex.za6 (by simp; omega) h1
     have x9 : expC (Ex.eBin op e' b) = [.int .i64 4, .str op, .int .i64 0, .int .i64 0, .str [], .str [], .str [], .int .i64 0, .bool false, .bool false, .list [.agg (expC e'), .agg (expC b)]] := by simp [expC, Ex.eBin, Ex.v0]
     clear hr
     refine wk ?_
     refine kw (zjx hL hp hl hone) ?_
     refine cp 0 (hf m' (p' + 1) _ (by omega) hlt h1) ?_
     rintro o e' ⟨rfl, he, hq⟩
     simp only [List.cons.injEq, and_true] at he
     subst he
     show wpR _ _ _ _ _ (X.put _ _ _ [(0, prsE L _)])
     refine wk ?_
     refine ⟨lo, ⟨m', q, Ex.eBin op e' b, by omega, hq, h2, le⟩, ?_⟩
     clear h1 h2
     rw [zbi]
     simp [envL, stL, ↓zaj, ↓zak, ↓zar, ↓zaq, ↓zap, ↓zas, ↓zaz, ↓zab, ↓zae, ↓zaa, ↓zac, ↓ev_t, ↓ev_c, atM, prsE]
     omega
    ·clear hr
     refine wk ?_
     refine kw (zjx hL hp hl hone) ?_
     refine cp 0 (hf m' (p' + 1) _ (by omega) hlt h1) ?_
     rintro o e' ⟨rfl, he, hq⟩
     simp only [List.cons.injEq, and_true] at he
     subst he
     refine pq ?_
     exact ⟨rfl, rfl, hq⟩
 ·refine wk ?_
  refine cp 0 (hf m p _ hm hp h1) ?_
  rintro o e' ⟨rfl, he, hq⟩
  simp only [List.cons.injEq, and_true] at he
  subst he
  refine pq ?_
  exact ⟨rfl, rfl, hq⟩
end Go.Proofs.YtakegkongmnekaaGreatDoor
namespace Go.Proofs.YtakegkongmnekaaGreatDoor
open Go.RowKit
open Vm
section
variable {G : Nat → Vm.V} {L : List Lx.TA} {n : Nat}
theorem partM_cases {r : Ex.R} {o : POut} {es : List Ent} (h : zh3 L r o es) : (∃ e q, r = .ok [e] q ∧ o = .ret (.agg (expC e)) ∧ es = [prsE L q] ∧ q ≤ L.length) ∨ ∃ q, r = .stop q ∧ o = .panic (ziY q) ∧ es = [prsE L q] ∧ q ≤ L.length := by
 unfold zh3 at h
 split at h
 ·exact .inl ⟨_, _, rfl, h⟩
 ·exact h.elim
 ·exact .inr ⟨_, rfl, h⟩
set_option maxHeartbeats 2000000 in
theorem m_expr (hL : L.length ≤ 999999) (h1 : Lvl G L 69 1 n) : Lvl G L 41 0 (n + 1) := by
 intro m p r hm hp hr
 cases m with
 | zero => cases hr
 | succ m =>
 rw [Ex.zdd _ _ _ _ (by decide)] at hr
 have hc := zhH hL h1 m p r [Ex.wOr] 2 rfl (by decide) (by omega) hp hr
 clear hr
 refine zaM (zfz G) (by simp) (by simp [L_expr_parser_expr]) ?_
 show wpC _ _ 1 (panK 1 _) _ (retK 1 _ _) (mkX [(0, _)] [(0, _)])
 simp only [L_expr_parser_expr, zs, za, zl, zc, zE, prsE]
 have x0 := zx; have hpr : ∀ q f, (prsE L q).on f = true := fun _ _ => rfl
 refine wk ?_
 refine cp 0 (hc) ?_
 intro o e' hR
 rcases partM_cases hR with ⟨e, q, rfl, rfl, he, hq⟩ | ⟨q, rfl, rfl, he, hq⟩
 rotate_left
 ·simp only [List.cons.injEq, and_true] at he; subst he; refine pq ?_; exact ⟨rfl, rfl, hq⟩
 simp only [List.cons.injEq, and_true] at he
 subst he
 show wpR _ _ _ _ _ (X.put _ _ _ [(0, prsE L q)])
 refine wk ?_
 refine rt ?_
 exact ⟨rfl, rfl, hq⟩
set_option maxHeartbeats 2000000 in
theorem zjz (hL : L.length ≤ 999999) (h1 : Lvl G L 95 2 n) : Lvl G L 69 1 (n + 1) := by
 intro m p r hm hp hr
 cases m with
 | zero => cases hr
 | succ m =>
 rw [Ex.zdd _ _ _ _ (by decide)] at hr
 have hc := zhH hL h1 m p r [Ex.wAnd] 2 rfl (by decide) (by omega) hp hr
 clear hr
 refine zaM (zdi G) (by simp) (by simp [L_expr_parser_conjunction]) ?_
 show wpC _ _ 1 (panK 1 _) _ (retK 1 _ _) (mkX [(0, _)] [(0, _)])
 simp only [L_expr_parser_conjunction, zs, za, zl, zc, zE, prsE]
 have x0 := zx; have hpr : ∀ q f, (prsE L q).on f = true := fun _ _ => rfl
 refine wk ?_
 refine cp 0 (hc) ?_
 intro o e' hR
 rcases partM_cases hR with ⟨e, q, rfl, rfl, he, hq⟩ | ⟨q, rfl, rfl, he, hq⟩
 rotate_left
 ·simp only [List.cons.injEq, and_true] at he; subst he; refine pq ?_; exact ⟨rfl, rfl, hq⟩
 simp only [List.cons.injEq, and_true] at he
 subst he
 show wpR _ _ _ _ _ (X.put _ _ _ [(0, prsE L q)])
 refine wk ?_
 refine rt ?_
 exact ⟨rfl, rfl, hq⟩
set_option maxHeartbeats 2000000 in
theorem m_sum (hL : L.length ≤ 999999) (h1 : Lvl G L 143 5 n) : Lvl G L 135 4 (n + 1) := by
 intro m p r hm hp hr
 cases m with
 | zero => cases hr
 | succ m =>
 rw [Ex.zdd _ _ _ _ (by decide)] at hr
 have hc := zhH hL h1 m p r [Ex.zbN, Ex.zbb] 4 rfl (by decide) (by omega) hp hr
 clear hr
 refine zaM (zge G) (by simp) (by simp [L_expr_parser_sum]) ?_
 show wpC _ _ 1 (panK 1 _) _ (retK 1 _ _) (mkX [(0, _)] [(0, _)])
 simp only [L_expr_parser_sum, zs, za, zl, zc, zE, prsE]
 have x0 := zx; have hpr : ∀ q f, (prsE L q).on f = true := fun _ _ => rfl
 refine wk ?_
 refine cp 0 (hc) ?_
 intro o e' hR
 rcases partM_cases hR with ⟨e, q, rfl, rfl, he, hq⟩ | ⟨q, rfl, rfl, he, hq⟩
 rotate_left
 ·simp only [List.cons.injEq, and_true] at he; subst he; refine pq ?_; exact ⟨rfl, rfl, hq⟩
 simp only [List.cons.injEq, and_true] at he
 subst he
 show wpR _ _ _ _ _ (X.put _ _ _ [(0, prsE L q)])
 refine wk ?_
 refine rt ?_
 exact ⟨rfl, rfl, hq⟩
set_option maxHeartbeats 2000000 in
theorem zoX (hL : L.length ≤ 999999) (h1 : Lvl G L 148 6 n) : Lvl G L 143 5 (n + 1) := by
 intro m p r hm hp hr
 cases m with
 | zero => cases hr
 | succ m =>
 rw [Ex.zdd _ _ _ _ (by decide)] at hr
 have hc := zhH hL h1 m p r [Ex.zca, [47], [37]] 4 rfl (by decide) (by omega) hp hr
 clear hr
 refine zaM (zef G) (by simp) (by simp [L_expr_parser_product]) ?_
 show wpC _ _ 1 (panK 1 _) _ (retK 1 _ _) (mkX [(0, _)] [(0, _)])
 simp only [L_expr_parser_product, zs, za, zl, zc, zE, prsE]
 have x0 := zx; have hpr : ∀ q f, (prsE L q).on f = true := fun _ _ => rfl
 refine wk ?_
 refine cp 0 (hc) ?_
 intro o e' hR
 rcases partM_cases hR with ⟨e, q, rfl, rfl, he, hq⟩ | ⟨q, rfl, rfl, he, hq⟩
 rotate_left
 ·simp only [List.cons.injEq, and_true] at he; subst he; refine pq ?_; exact ⟨rfl, rfl, hq⟩
 simp only [List.cons.injEq, and_true] at he
 subst he
 show wpR _ _ _ _ _ (X.put _ _ _ [(0, prsE L q)])
 refine wk ?_
 refine rt ?_
 exact ⟨rfl, rfl, hq⟩
set_option maxHeartbeats 2000000 in
theorem m_join (hL : L.length ≤ 999999) (h1 : Lvl G L 149 7 n) : Lvl G L 148 6 (n + 1) := by
 intro m p r hm hp hr
 cases m with
 | zero => cases hr
 | succ m =>
 rw [Ex.zdd _ _ _ _ (by decide)] at hr
 have hc := zhH hL h1 m p r [[124, 124]] 4 rfl (by decide) (by omega) hp hr
 clear hr
 refine zaM (zfy G) (by simp) (by simp [L_expr_parser_join]) ?_
 show wpC _ _ 1 (panK 1 _) _ (retK 1 _ _) (mkX [(0, _)] [(0, _)])
 simp only [L_expr_parser_join, zs, za, zl, zc, zE, prsE]
 have x0 := zx; have hpr : ∀ q f, (prsE L q).on f = true := fun _ _ => rfl
 refine wk ?_
 refine cp 0 (hc) ?_
 intro o e' hR
 rcases partM_cases hR with ⟨e, q, rfl, rfl, he, hq⟩ | ⟨q, rfl, rfl, he, hq⟩
 rotate_left
 ·simp only [List.cons.injEq, and_true] at he; subst he; refine pq ?_; exact ⟨rfl, rfl, hq⟩
 simp only [List.cons.injEq, and_true] at he
 subst he
 show wpR _ _ _ _ _ (X.put _ _ _ [(0, prsE L q)])
 refine wk ?_
 refine rt ?_
 exact ⟨rfl, rfl, hq⟩
set_option maxHeartbeats 2000000 in
theorem znf (hL : L.length ≤ 999999) (h2 : Lvl G L 95 2 n) (h3 : Lvl G L 119 3 n) : Lvl G L 95 2 (n + 1) := by
 intro m p r hm hp hr
 cases m with
 | zero => cases hr
 | succ m =>
 rw [Ex.run] at hr
 refine zaM (zdQ G) (by simp) (by simp [L_expr_parser_negation]) ?_
 show wpC _ _ 1 (panK 1 _) _ (retK 1 _ _) (mkX [(0, _)] [(0, _)])
 simp only [L_expr_parser_negation, zs, za, zl, zc, zE, prsE]
 have x0 := zx; have hpr : ∀ q f, (prsE L q).on f = true := fun _ _ => rfl
 cases ht : Ex.isT (L.map (·.1)) p 2 Ex.wNot
 ·rw [if_neg (by simp [ht])] at hr
  have hc := h3 m p r (by omega) hp hr
  clear hr
  refine wk ?_
  refine kw (zaP hL hp ht) ?_
  refine cp 0 (hc) ?_
  intro o e' hR
  rcases partM_cases hR with ⟨e, q, rfl, rfl, he, hq⟩ | ⟨q, rfl, rfl, he, hq⟩
  rotate_left
  ·simp only [List.cons.injEq, and_true] at he; subst he; refine pq ?_; exact ⟨rfl, rfl, hq⟩
  simp only [List.cons.injEq, and_true] at he
  subst he
  show wpR _ _ _ _ _ (X.put _ _ _ [(0, prsE L q)])
  refine wk ?_
  refine rt ?_
  exact ⟨rfl, rfl, hq⟩
 ·rw [if_pos ht] at hr
  have hlt : p < L.length := by simpa using Ex.isT_lt ht
  rcases Ex.then1_some hr with ⟨e, q, h4, h5⟩ | ⟨q, h4, rfl⟩
  ·cases h5
   clear hr
   have hc := h2 m (p + 1) _ (by omega) hlt h4
   refine wk ?_
   refine kw (za1 hL ht) ?_
   refine cp 0 (hc) ?_
   rintro o e' ⟨rfl, he, hq⟩
   simp only [List.cons.injEq, and_true] at he
   subst he
   show wpR _ _ _ _ _ (X.put _ _ _ [(0, prsE L _)])
   refine wk ?_
   refine rt ?_
   exact ⟨(by first | rfl | (simp [expC, Ex.eUn, Ex.eBin, Ex.eIs, Ex.eIn, Ex.eBtw, Ex.zaY, Ex.eVal, Ex.eCol, Ex.eCase, Ex.eFn, Ex.eAgg, Ex.za0, Ex.v0]; first | done | rfl | exact ⟨rfl, rfl⟩)), rfl, hq⟩
  ·clear hr
   have hc := h2 m (p + 1) _ (by omega) hlt h4
   refine wk ?_
   refine kw (za1 hL ht) ?_
   refine cp 0 (hc) ?_
   rintro o e' ⟨rfl, he, hq⟩
   simp only [List.cons.injEq, and_true] at he
   subst he
   refine pq ?_
   exact ⟨rfl, rfl, hq⟩
set_option maxHeartbeats 4000000 in
theorem m_list (hL : L.length ≤ 999999) (h0 : Lvl G L 41 0 n) (m p : Nat) (r : Ex.R) (hm : m ≤ n + 1) (hp : p ≤ L.length) (hr : Ex.run (L.map (·.1)) m (.list []) p = some r) :
  zaN Tryz.prog G 137 [.ptr 0 0] [prsE L p] (listM L r) := by
 cases m with
 | zero => cases hr
 | succ m =>
 have hlen : ∀ l q, r = .ok l q → l.length ≤ L.length := fun l q e => by
  have h1 := Ex.zdZ _ _ _ _ _ _ (by simpa using hp) (e ▸ hr)
  have h2 := Ex.zhn (by simpa using hp) (e ▸ hr)
  simp at h1 h2
  omega
 rw [Ex.run] at hr
 refine zaM (zfw G) (by simp) (by simp [L_expr_parser_list]) ?_
 show wpC _ _ 1 (panK 1 _) _ (retK 1 _ _) (mkX [(0, _)] [(0, _)])
 simp only [L_expr_parser_list, zs, za, zl, zc, zE, prsE]
 have x0 := zx; have hpr : ∀ q f, (prsE L q).on f = true := fun _ _ => rfl
 rcases Ex.then1_some hr with ⟨e, q, h1, h2⟩ | ⟨q, h1, rfl⟩
 ·have hc := h0 m p _ (by omega) hp h1
  have hfw := Ex.za6 (by simpa using hp) h1
  have hfw2 : q ≤ L.length ∧ 1 ≤ q := ⟨by simpa using hfw.2, by omega⟩
  clear hr hfw h1
  refine wk ?_
  refine cp 0 (hc) ?_
  rintro o e' ⟨rfl, he, hq⟩
  simp only [List.cons.injEq, and_true] at he
  subst he
  show wpR _ _ _ _ _ (X.put _ _ _ [(0, prsE L _)])
  refine wk ?_
  refine ziK [0, 3] [0, 13] (fun y => ∃ (m' p' : Nat) (acc : List Ex.E), m' ≤ n ∧ p' ≤ L.length ∧ acc.length ≤ p' ∧ (if Ex.isT (L.map (·.1)) p' 4 Ex.zcx = true then Ex.run (L.map (·.1)) m' (.list acc) (p' + 1) else Ex.need (L.map (·.1)) 4 Ex.zbh p' fun q => some (.ok acc q)) = some r ∧ y = mkX [(0, .ptr 0 0), (3, .row 13 acc.length)] [(0, prsE L p'), (13, .row 27 11 (acc.map fun e => .agg (expC e)))]) atM lo ⟨m, q, [e], by omega, hq, by simp; omega, h2, le⟩ ?_
  clear h2 hq hc hfw2 e q hp hm
  rintro y ⟨m', p', acc, hm, hp, hacc, hr, rfl⟩
  simp only [prsE]
  cases ht : Ex.isT (L.map (·.1)) p' 4 Ex.zcx
  ·rw [if_neg (by simp [ht])] at hr
   have hx : ((acc.map fun e => Vm.V.agg (expC e)).take acc.length) = acc.map fun e => .agg (expC e) := List.take_of_length_le (by simp)
   rcases Ex.need_some hr with ⟨ht2, h5⟩ | ⟨ht2, rfl⟩
   ·cases h5
    clear hr
    have hal := hlen acc _ rfl
    refine wk ?_
    refine kw (zcK hL hp ht) ?_
    refine kp (zaG hL ht2) ?_
    have hlt : p' < L.length := by simpa using Ex.isT_lt ht2
    refine wk ?_
    refine rt ?_
    exact ⟨rfl, rfl, hlt, hal⟩
   ·clear hr
    refine wk ?_
    refine kw (zcK hL hp ht) ?_
    refine cp 0 (zaH hL hp ht2) ?_
    rintro o e' ⟨rfl, he⟩
    simp only [List.cons.injEq, and_true] at he
    subst he
    refine pq ?_
    exact ⟨rfl, rfl, hp⟩
  ·rw [if_pos ht] at hr
   have hlt : p' < L.length := by simpa using Ex.isT_lt ht
   cases m' with
   | zero => cases hr
   | succ m' =>
   rw [Ex.run] at hr
   rcases Ex.then1_some hr with ⟨e, q, h1, h2⟩ | ⟨q, h1, rfl⟩
   ·have hc := h0 m' (p' + 1) _ (by omega) hlt h1
    have hfw := Ex.za6 (by simp; omega) h1
    have hbd : (acc.length + 1) * 129 ≤ 140737488355328 := by omega
    clear hr h1
    refine wk ?_
    refine kw (zdG hL ht) ?_
    refine cp 0 (hc) ?_
    rintro o e' ⟨rfl, he, hq⟩
    simp only [List.cons.injEq, and_true] at he
    subst he
    show wpR _ _ _ _ _ (X.put _ _ _ [(0, prsE L _)])
    refine wk ?_
    refine ⟨lo, ⟨m', q, acc ++ [e], by omega, hq, by simp; omega, h2, by simp only [List.map_append, List.length_append, List.length_cons, List.length_nil, List.map_cons, List.map_nil]; exact le⟩, ?_⟩
    rw [zbi]
    simp [envL, stL, ↓zaj, ↓zak, ↓zar, ↓zaq, ↓zap, ↓zas, ↓zaz, ↓zab, ↓zae, ↓zaa, ↓zac, ↓ev_t, ↓ev_c, atM, prsE]
    omega
   ·have hc := h0 m' (p' + 1) _ (by omega) hlt h1
    clear hr h1
    refine wk ?_
    refine kw (zdG hL ht) ?_
    refine cp 0 (hc) ?_
    rintro o e' ⟨rfl, he, hq⟩
    simp only [List.cons.injEq, and_true] at he
    subst he
    refine pq ?_
    exact ⟨rfl, rfl, hq⟩
 ·have hc := h0 m p _ (by omega) hp h1
  clear hr h1
  refine wk ?_
  refine cp 0 (hc) ?_
  rintro o e' ⟨rfl, he, hq⟩
  simp only [List.cons.injEq, and_true] at he
  subst he
  refine pq ?_
  exact ⟨rfl, rfl, hq⟩
end
end Go.Proofs.YtakegkongmnekaaGreatDoor
namespace Go.Proofs.YtakegkongmnekaaGreatDoor
open Go.RowKit
open Vm
def Good (L : List Lx.TA) : Prop := ∀ (i : Nat) (t : Lx.TA), L[i]? = some t → t.1.text.length ≤ 1000000 ∧ -9223372036854775807 ≤ t.1.val.2.1 ∧ t.1.val.2.1 ≤ 9223372036854775807
theorem zkz {G : Nat → Vm.V} {s : List UInt8} (hs : s.length ≤ 1000000) : zaN Tryz.prog G 64 [.str s] [] fun o es => o = .ret (.str (Lx.fold s)) ∧ es = [] := by
 refine zd8 (by kernel_rfl) rfl fun w A vals hv => ?_
 rw [zd6 hv]
 have hz : (Lx.bs s).size ≤ 9223372036854775000 := by rw [Lx.zaA]; omega
 refine Calls.mono (zbS (Lx.bs s) w hz) fun e w' h => ⟨h.2, _, rfl, ?_⟩
 rw [h.1, Lx.zbd]
 exact ⟨_, rfl, .str _⟩
section
variable {G : Nat → Vm.V} {L : List Lx.TA} {n : Nat}
abbrev LstC (G : Nat → Vm.V) (L : List Lx.TA) (n : Nat) : Prop := ∀ (m p : Nat) (r : Ex.R), m ≤ n → p ≤ L.length → Ex.run (L.map (·.1)) m (.list []) p = some r → zaN Tryz.prog G 137 [.ptr 0 0] [prsE L p] (listM L r)
set_option maxHeartbeats 8000000 in
theorem m_signed (hL : L.length ≤ 999999) (hT : Good L) (h8 : Lvl G L 150 8 n) (h7 : Lvl G L 149 7 n) : Lvl G L 149 7 (n + 1) := by
 intro m p r hm hp hr
 cases m with
 | zero => cases hr
 | succ m =>
 rw [Ex.run] at hr
 refine zaM (zex G) (by simp) (by simp [L_expr_parser_signed]) ?_
 show wpC _ _ 1 (panK 1 _) _ (retK 1 _ _) (mkX [(0, _)] [(0, _)])
 simp only [L_expr_parser_signed, zs, za, zl, zc, zE, prsE]
 have x0 := zx; have hpr : ∀ q f, (prsE L q).on f = true := fun _ _ => rfl
 refine wk ?_
 cases hone : Ex.oneOf (L.map (·.1)) p 4 [Ex.zbb, Ex.zbN] with
 | none =>
  rw [hone] at hr; try dsimp only at hr
  have hc := h8 m p r (by omega) hp hr
  clear hr
  refine kw (zlt hL hp (by decide) hone) ?_
  refine cp 0 (hc) ?_
  intro o e' hR
  rcases partM_cases hR with ⟨e, q, rfl, rfl, he, hq⟩ | ⟨q, rfl, rfl, he, hq⟩
  rotate_left
  ·simp only [List.cons.injEq, and_true] at he; subst he; refine pq ?_; exact ⟨rfl, rfl, hq⟩
  simp only [List.cons.injEq, and_true] at he
  subst he
  show wpR _ _ _ _ _ (X.put _ _ _ [(0, prsE L q)])
  refine wk ?_
  refine rt ?_
  exact ⟨rfl, rfl, hq⟩
 | some op =>
  rw [hone] at hr; try dsimp only at hr
  have hlt : p < L.length := by simpa using (Ex.zaB hone).1
  have hmem := (Ex.zaB hone).2.2
  have hc1 := zjx (G := G) hL hp (by decide) hone
  obtain ⟨p1, hp1⟩ : ∃ p1, p1 = p + 1 := ⟨_, rfl⟩
  rw [show p + 2 = p1 + 1 by omega, ← hp1] at hr
  rw [← hp1] at hc1
  have hq1 : p1 ≤ L.length := by omega
  clear hp1 hlt hone
  simp only [List.mem_cons, List.mem_nil_iff, or_false, Ex.zbb, Ex.zbN] at hmem
  rcases hmem with rfl | rfl
  ·cases h2 : L[p1]? with
   | none =>
    rw [List.getElem?_map, h2] at hr; dsimp only [Option.map] at hr
    have h1 : ((p1 : Int) < (L.length : Int)) = False := by simp at h2 ⊢; omega
    rcases Ex.then1_some hr with ⟨e, q, ha, hb⟩ | ⟨q, ha, rfl⟩
    ·have hc := h7 m p1 _ (by omega) hq1 ha
     clear ha hr
     refine kp (hc1) ?_
     simp only [prsE]
     refine wk ?_
     refine cp 0 (hc) ?_
     rintro o e' ⟨rfl, he, hq⟩
     simp only [List.cons.injEq, and_true] at he
     subst he
     show wpR _ _ _ _ _ (X.put _ _ _ [(0, prsE L _)])
     refine wk ?_
     cases hb
     refine rt ?_
     exact ⟨(by first | rfl | (simp [expC, Ex.eUn, Ex.eBin, Ex.eIs, Ex.eIn, Ex.eBtw, Ex.zaY, Ex.eVal, Ex.eCol, Ex.eCase, Ex.eFn, Ex.eAgg, Ex.za0, Ex.v0]; first | done | rfl | exact ⟨rfl, rfl⟩)), rfl, hq⟩
    ·have hc := h7 m p1 _ (by omega) hq1 ha
     clear ha hr
     refine kp (hc1) ?_
     simp only [prsE]
     refine wk ?_
     refine cp 0 (hc) ?_
     rintro o e' ⟨rfl, he, hq⟩
     simp only [List.cons.injEq, and_true] at he
     subst he
     refine pq ?_
     exact ⟨rfl, rfl, hq⟩
   | some t =>
    rw [List.getElem?_map, h2] at hr; dsimp only [Option.map] at hr
    have hlt : p1 < L.length := (List.getElem?_eq_some_iff.1 h2).1
    have h1 : ((p1 : Int) < (L.length : Int)) = True := by simp; omega
    have h7a : tokM t = .agg [.int .i64 t.1.kind, .str t.1.text, .int .i64 t.1.val.1, .int .i64 t.1.val.2.1, .str t.1.val.2.2, .int .i64 (t.2 : Int)] := rfl
    obtain ⟨hN, hN1, hN2⟩ := hT _ _ h2
    clear hN
    have h2b : ∀ h : p1 < L.length, L[p1]'h = t := fun h => (List.getElem?_eq_some_iff.1 h2).2
    have hq2 : p1 + 1 ≤ L.length := hlt
    clear hlt
    by_cases hk : t.1.kind = 3
    ·have hk' : (t.1.kind = 3) = True := by simpa using hk
     by_cases hv : t.1.val.1 = 1
     ·have hv' : (t.1.val.1 = 1) = True := by simpa using hv
      simp only [hk', hv', decide_true, Bool.and_true, Bool.and_self, beq_self_eq_true, if_true, Ex.zbb] at hr
      clear hk hv
      cases hr
      refine kp (hc1) ?_
      simp only [prsE]
      refine wk ?_
      refine rt ?_
      exact ⟨(by first | rfl | (simp [expC, Ex.eUn, Ex.eBin, Ex.eIs, Ex.eIn, Ex.eBtw, Ex.zaY, Ex.eVal, Ex.eCol, Ex.eCase, Ex.eFn, Ex.eAgg, Ex.za0, Ex.v0]; first | done | rfl | exact ⟨rfl, rfl⟩)), rfl, hq2⟩
     ·have hv' : (t.1.val.1 = 1) = False := by simpa using hv
      simp only [hk', hv', decide_true, decide_false, Bool.and_true, Bool.and_false, Bool.false_eq_true, if_false, Ex.zbb] at hr
      clear hk hv
      rcases Ex.then1_some hr with ⟨e, q, ha, hb⟩ | ⟨q, ha, rfl⟩
      ·have hc := h7 m p1 _ (by omega) hq1 ha
       clear ha hr
       refine kp (hc1) ?_
       simp only [prsE]
       refine wk ?_
       refine cp 0 (hc) ?_
       rintro o e' ⟨rfl, he, hq⟩
       simp only [List.cons.injEq, and_true] at he
       subst he
       show wpR _ _ _ _ _ (X.put _ _ _ [(0, prsE L _)])
       refine wk ?_
       cases hb
       refine rt ?_
       exact ⟨(by first | rfl | (simp [expC, Ex.eUn, Ex.eBin, Ex.eIs, Ex.eIn, Ex.eBtw, Ex.zaY, Ex.eVal, Ex.eCol, Ex.eCase, Ex.eFn, Ex.eAgg, Ex.za0, Ex.v0]; first | done | rfl | exact ⟨rfl, rfl⟩)), rfl, hq⟩
      ·have hc := h7 m p1 _ (by omega) hq1 ha
       clear ha hr
       refine kp (hc1) ?_
       simp only [prsE]
       refine wk ?_
       refine cp 0 (hc) ?_
       rintro o e' ⟨rfl, he, hq⟩
       simp only [List.cons.injEq, and_true] at he
       subst he
       refine pq ?_
       exact ⟨rfl, rfl, hq⟩
    ·have hk' : (t.1.kind = 3) = False := by simpa using hk
     simp only [hk', decide_false, Bool.and_false, Bool.false_and, Bool.false_eq_true, if_false, Ex.zbb] at hr
     clear hk
     rcases Ex.then1_some hr with ⟨e, q, ha, hb⟩ | ⟨q, ha, rfl⟩
     ·have hc := h7 m p1 _ (by omega) hq1 ha
      clear ha hr
      refine kp (hc1) ?_
      simp only [prsE]
      refine wk ?_
      refine cp 0 (hc) ?_
      rintro o e' ⟨rfl, he, hq⟩
      simp only [List.cons.injEq, and_true] at he
      subst he
      show wpR _ _ _ _ _ (X.put _ _ _ [(0, prsE L _)])
      refine wk ?_
      cases hb
      refine rt ?_
      exact ⟨(by first | rfl | (simp [expC, Ex.eUn, Ex.eBin, Ex.eIs, Ex.eIn, Ex.eBtw, Ex.zaY, Ex.eVal, Ex.eCol, Ex.eCase, Ex.eFn, Ex.eAgg, Ex.za0, Ex.v0]; first | done | rfl | exact ⟨rfl, rfl⟩)), rfl, hq⟩
     ·have hc := h7 m p1 _ (by omega) hq1 ha
      clear ha hr
      refine kp (hc1) ?_
      simp only [prsE]
      refine wk ?_
      refine cp 0 (hc) ?_
      rintro o e' ⟨rfl, he, hq⟩
      simp only [List.cons.injEq, and_true] at he
      subst he
      refine pq ?_
      exact ⟨rfl, rfl, hq⟩
  ·replace hr : Ex.then1 (Ex.run (L.map (·.1)) m (.lev 7) p1) (fun e q => Ex.one (Ex.eUn [43] e) q) = some r := by
    cases h2 : (L.map (·.1))[p1]? <;> rw [h2] at hr <;> dsimp only at hr
    ·exact hr
    ·rwa [if_neg (by simp [Ex.zbN, Ex.zbb])] at hr
   rcases Ex.then1_some hr with ⟨e, q, ha, hb⟩ | ⟨q, ha, rfl⟩
   ·have hc := h7 m p1 _ (by omega) hq1 ha
    clear ha hr
    refine kp (hc1) ?_
    simp only [prsE]
    refine wk ?_
    refine cp 0 (hc) ?_
    rintro o e' ⟨rfl, he, hq⟩
    simp only [List.cons.injEq, and_true] at he
    subst he
    show wpR _ _ _ _ _ (X.put _ _ _ [(0, prsE L _)])
    refine wk ?_
    cases hb
    refine rt ?_
    exact ⟨(by first | rfl | (simp [expC, Ex.eUn, Ex.eBin, Ex.eIs, Ex.eIn, Ex.eBtw, Ex.zaY, Ex.eVal, Ex.eCol, Ex.eCase, Ex.eFn, Ex.eAgg, Ex.za0, Ex.v0]; first | done | rfl | exact ⟨rfl, rfl⟩)), rfl, hq⟩
   ·have hc := h7 m p1 _ (by omega) hq1 ha
    clear ha hr
    refine kp (hc1) ?_
    simp only [prsE]
    refine wk ?_
    refine cp 0 (hc) ?_
    rintro o e' ⟨rfl, he, hq⟩
    simp only [List.cons.injEq, and_true] at he
    subst he
    refine pq ?_
    exact ⟨rfl, rfl, hq⟩
set_option maxHeartbeats 16000000 in
theorem m_call (hL : L.length ≤ 999999) (h0 : Lvl G L 41 0 n) (hls : LstC G L n) (m p : Nat) (r : Ex.R) (op : List UInt8) (hm : m ≤ n) (hp : p ≤ L.length) (hr : Ex.zjJ (L.map (·.1)) m op p = some r) :
  zaN Tryz.prog G 155 [.ptr 0 0, .str op] [prsE L p] (zh3 L r) := by
 refine zaM (zfB G) (by simp) (by simp [L_expr_parser_call]) ?_
 show wpC _ _ 1 (panK 1 _) _ (retK 1 _ _) (mkX [(0, _), (1, _)] [(0, _)])
 simp only [L_expr_parser_call, zs, za, zl, zc, zE, prsE]
 have x0 := zx; have hpr : ∀ q f, (prsE L q).on f = true := fun _ _ => rfl
 by_cases hop : op ∈ Ex.aggs
 ·have hopc : Ex.aggs.contains op = true := by simpa using hop
  rw [Ex.zjJ, if_pos hopc] at hr
  clear hopc
  simp only [Ex.aggs, Ex.zbr, List.mem_cons, List.mem_nil_iff, or_false] at hop
  rcases hop with rfl | rfl | rfl | rfl | rfl | rfl
  ·cases hst : Ex.isT (L.map (·.1)) p 4 Ex.zca
   ·rw [if_neg (by simp [hst])] at hr
    cases hd : Ex.isT (L.map (·.1)) p 2 Ex.wDistinct
    ·rw [hd] at hr; try dsimp only at hr
     rw [if_neg (by simp)] at hr
     refine wk ?_
     refine kw (zcK hL hp hst) ?_
     refine kw (zaP hL hp hd) ?_
     rcases Ex.then1_some hr with ⟨e2, q2, hz, h5⟩ | ⟨q2, hz, rfl⟩
     ·have hcq2 := h0 m (p) _ (by omega) hp hz
      clear hz hr
      refine cp 0 (hcq2) ?_
      rintro o e' ⟨rfl, he, hq2⟩
      simp only [List.cons.injEq, and_true] at he
      subst he
      show wpR _ _ _ _ _ (X.put _ _ _ [(0, prsE L _)])
      refine wk ?_
      rcases Ex.need_some h5 with ⟨hmo, h5m⟩ | ⟨hmo, rfl⟩
      ·have hlthmo := (by simpa using Ex.isT_lt hmo : _ < L.length)
       clear h5
       refine kw (zaG hL hmo) ?_
       cases h5m
       refine rt ?_
       exact ⟨(by first | rfl | (simp [expC, Ex.eUn, Ex.eBin, Ex.eIs, Ex.eIn, Ex.eBtw, Ex.zaY, Ex.eVal, Ex.eCol, Ex.eCase, Ex.eFn, Ex.eAgg, Ex.za0, Ex.v0]; first | done | rfl | exact ⟨rfl, rfl⟩)), rfl, hlthmo⟩
      ·clear h5
       refine cp 0 (zaH hL hq2 hmo) ?_
       rintro o e' ⟨rfl, he⟩
       simp only [List.cons.injEq, and_true] at he
       subst he
       refine pq ?_
       exact ⟨rfl, rfl, hq2⟩
     ·have hcq2 := h0 m (p) _ (by omega) hp hz
      clear hz hr
      refine cp 0 (hcq2) ?_
      rintro o e' ⟨rfl, he, hq2⟩
      simp only [List.cons.injEq, and_true] at he
      subst he
      refine pq ?_
      exact ⟨rfl, rfl, hq2⟩
    ·rw [hd] at hr; try dsimp only at hr
     have hlt0 : p < L.length := by simpa using Ex.isT_lt hd
     rw [if_pos rfl] at hr
     refine wk ?_
     refine kw (zcK hL hp hst) ?_
     refine kw (za1 hL hd) ?_
     rcases Ex.then1_some hr with ⟨e2, q2, hz, h5⟩ | ⟨q2, hz, rfl⟩
     ·have hcq2 := h0 m (p + 1) _ (by omega) hlt0 hz
      clear hz hr
      refine cp 0 (hcq2) ?_
      rintro o e' ⟨rfl, he, hq2⟩
      simp only [List.cons.injEq, and_true] at he
      subst he
      show wpR _ _ _ _ _ (X.put _ _ _ [(0, prsE L _)])
      refine wk ?_
      rcases Ex.need_some h5 with ⟨hmo, h5m⟩ | ⟨hmo, rfl⟩
      ·have hlthmo := (by simpa using Ex.isT_lt hmo : _ < L.length)
       clear h5
       refine kw (zaG hL hmo) ?_
       cases h5m
       refine rt ?_
       exact ⟨(by first | rfl | (simp [expC, Ex.eUn, Ex.eBin, Ex.eIs, Ex.eIn, Ex.eBtw, Ex.zaY, Ex.eVal, Ex.eCol, Ex.eCase, Ex.eFn, Ex.eAgg, Ex.za0, Ex.v0]; first | done | rfl | exact ⟨rfl, rfl⟩)), rfl, hlthmo⟩
      ·clear h5
       refine cp 0 (zaH hL hq2 hmo) ?_
       rintro o e' ⟨rfl, he⟩
       simp only [List.cons.injEq, and_true] at he
       subst he
       refine pq ?_
       exact ⟨rfl, rfl, hq2⟩
     ·have hcq2 := h0 m (p + 1) _ (by omega) hlt0 hz
      clear hz hr
      refine cp 0 (hcq2) ?_
      rintro o e' ⟨rfl, he, hq2⟩
      simp only [List.cons.injEq, and_true] at he
      subst he
      refine pq ?_
      exact ⟨rfl, rfl, hq2⟩
   ·rw [if_pos (by rw [hst]; rfl)] at hr
    have hlts : p < L.length := by simpa using Ex.isT_lt hst
    refine wk ?_
    refine kw (zdG hL hst) ?_
    rcases Ex.need_some hr with ⟨hmo, hrm⟩ | ⟨hmo, rfl⟩
    ·have hlthmo := (by simpa using Ex.isT_lt hmo : _ < L.length)
     clear hr
     refine kw (zaG hL hmo) ?_
     cases hrm
     refine rt ?_
     exact ⟨(by first | rfl | (simp [expC, Ex.eUn, Ex.eBin, Ex.eIs, Ex.eIn, Ex.eBtw, Ex.zaY, Ex.eVal, Ex.eCol, Ex.eCase, Ex.eFn, Ex.eAgg, Ex.za0, Ex.v0]; first | done | rfl | exact ⟨rfl, rfl⟩)), rfl, hlthmo⟩
    ·clear hr
     refine cp 0 (zaH hL hlts hmo) ?_
     rintro o e' ⟨rfl, he⟩
     simp only [List.cons.injEq, and_true] at he
     subst he
     refine pq ?_
     exact ⟨rfl, rfl, hlts⟩
  ·rw [if_neg (by simp [Ex.zbr])] at hr
   cases hd : Ex.isT (L.map (·.1)) p 2 Ex.wDistinct
   ·rw [hd] at hr; try dsimp only at hr
    rw [if_neg (by simp)] at hr
    refine wk ?_
    refine kw (zaP hL hp hd) ?_
    rcases Ex.then1_some hr with ⟨e2, q2, hz, h5⟩ | ⟨q2, hz, rfl⟩
    ·have hcq2 := h0 m (p) _ (by omega) hp hz
     clear hz hr
     refine cp 0 (hcq2) ?_
     rintro o e' ⟨rfl, he, hq2⟩
     simp only [List.cons.injEq, and_true] at he
     subst he
     show wpR _ _ _ _ _ (X.put _ _ _ [(0, prsE L _)])
     refine wk ?_
     rcases Ex.need_some h5 with ⟨hmo, h5m⟩ | ⟨hmo, rfl⟩
     ·have hlthmo := (by simpa using Ex.isT_lt hmo : _ < L.length)
      clear h5
      refine kw (zaG hL hmo) ?_
      cases h5m
      refine rt ?_
      exact ⟨(by first | rfl | (simp [expC, Ex.eUn, Ex.eBin, Ex.eIs, Ex.eIn, Ex.eBtw, Ex.zaY, Ex.eVal, Ex.eCol, Ex.eCase, Ex.eFn, Ex.eAgg, Ex.za0, Ex.v0]; first | done | rfl | exact ⟨rfl, rfl⟩)), rfl, hlthmo⟩
     ·clear h5
      refine cp 0 (zaH hL hq2 hmo) ?_
      rintro o e' ⟨rfl, he⟩
      simp only [List.cons.injEq, and_true] at he
      subst he
      refine pq ?_
      exact ⟨rfl, rfl, hq2⟩
    ·have hcq2 := h0 m (p) _ (by omega) hp hz
     clear hz hr
     refine cp 0 (hcq2) ?_
     rintro o e' ⟨rfl, he, hq2⟩
     simp only [List.cons.injEq, and_true] at he
     subst he
     refine pq ?_
     exact ⟨rfl, rfl, hq2⟩
   ·rw [hd] at hr; try dsimp only at hr
    have hlt0 : p < L.length := by simpa using Ex.isT_lt hd
    rw [if_pos rfl] at hr
    refine wk ?_
    refine kw (za1 hL hd) ?_
    rcases Ex.then1_some hr with ⟨e2, q2, hz, h5⟩ | ⟨q2, hz, rfl⟩
    ·have hcq2 := h0 m (p + 1) _ (by omega) hlt0 hz
     clear hz hr
     refine cp 0 (hcq2) ?_
     rintro o e' ⟨rfl, he, hq2⟩
     simp only [List.cons.injEq, and_true] at he
     subst he
     show wpR _ _ _ _ _ (X.put _ _ _ [(0, prsE L _)])
     refine wk ?_
     rcases Ex.need_some h5 with ⟨hmo, h5m⟩ | ⟨hmo, rfl⟩
     ·have hlthmo := (by simpa using Ex.isT_lt hmo : _ < L.length)
      clear h5
      refine kw (zaG hL hmo) ?_
      cases h5m
      refine rt ?_
      exact ⟨(by first | rfl | (simp [expC, Ex.eUn, Ex.eBin, Ex.eIs, Ex.eIn, Ex.eBtw, Ex.zaY, Ex.eVal, Ex.eCol, Ex.eCase, Ex.eFn, Ex.eAgg, Ex.za0, Ex.v0]; first | done | rfl | exact ⟨rfl, rfl⟩)), rfl, hlthmo⟩
     ·clear h5
      refine cp 0 (zaH hL hq2 hmo) ?_
      rintro o e' ⟨rfl, he⟩
      simp only [List.cons.injEq, and_true] at he
      subst he
      refine pq ?_
      exact ⟨rfl, rfl, hq2⟩
    ·have hcq2 := h0 m (p + 1) _ (by omega) hlt0 hz
     clear hz hr
     refine cp 0 (hcq2) ?_
     rintro o e' ⟨rfl, he, hq2⟩
     simp only [List.cons.injEq, and_true] at he
     subst he
     refine pq ?_
     exact ⟨rfl, rfl, hq2⟩
  ·rw [if_neg (by simp [Ex.zbr])] at hr
   cases hd : Ex.isT (L.map (·.1)) p 2 Ex.wDistinct
   ·rw [hd] at hr; try dsimp only at hr
    rw [if_neg (by simp)] at hr
    refine wk ?_
    refine kw (zaP hL hp hd) ?_
    rcases Ex.then1_some hr with ⟨e2, q2, hz, h5⟩ | ⟨q2, hz, rfl⟩
    ·have hcq2 := h0 m (p) _ (by omega) hp hz
     clear hz hr
     refine cp 0 (hcq2) ?_
     rintro o e' ⟨rfl, he, hq2⟩
     simp only [List.cons.injEq, and_true] at he
     subst he
     show wpR _ _ _ _ _ (X.put _ _ _ [(0, prsE L _)])
     refine wk ?_
     rcases Ex.need_some h5 with ⟨hmo, h5m⟩ | ⟨hmo, rfl⟩
     ·have hlthmo := (by simpa using Ex.isT_lt hmo : _ < L.length)
      clear h5
      refine kw (zaG hL hmo) ?_
      cases h5m
      refine rt ?_
      exact ⟨(by first | rfl | (simp [expC, Ex.eUn, Ex.eBin, Ex.eIs, Ex.eIn, Ex.eBtw, Ex.zaY, Ex.eVal, Ex.eCol, Ex.eCase, Ex.eFn, Ex.eAgg, Ex.za0, Ex.v0]; first | done | rfl | exact ⟨rfl, rfl⟩)), rfl, hlthmo⟩
     ·clear h5
      refine cp 0 (zaH hL hq2 hmo) ?_
      rintro o e' ⟨rfl, he⟩
      simp only [List.cons.injEq, and_true] at he
      subst he
      refine pq ?_
      exact ⟨rfl, rfl, hq2⟩
    ·have hcq2 := h0 m (p) _ (by omega) hp hz
     clear hz hr
     refine cp 0 (hcq2) ?_
     rintro o e' ⟨rfl, he, hq2⟩
     simp only [List.cons.injEq, and_true] at he
     subst he
     refine pq ?_
     exact ⟨rfl, rfl, hq2⟩
   ·rw [hd] at hr; try dsimp only at hr
    have hlt0 : p < L.length := by simpa using Ex.isT_lt hd
    rw [if_pos rfl] at hr
    refine wk ?_
    refine kw (za1 hL hd) ?_
    rcases Ex.then1_some hr with ⟨e2, q2, hz, h5⟩ | ⟨q2, hz, rfl⟩
    ·have hcq2 := h0 m (p + 1) _ (by omega) hlt0 hz
     clear hz hr
     refine cp 0 (hcq2) ?_
     rintro o e' ⟨rfl, he, hq2⟩
     simp only [List.cons.injEq, and_true] at he
     subst he
     show wpR _ _ _ _ _ (X.put _ _ _ [(0, prsE L _)])
     refine wk ?_
     rcases Ex.need_some h5 with ⟨hmo, h5m⟩ | ⟨hmo, rfl⟩
     ·have hlthmo := (by simpa using Ex.isT_lt hmo : _ < L.length)
      clear h5
      refine kw (zaG hL hmo) ?_
      cases h5m
      refine rt ?_
      exact ⟨(by first | rfl | (simp [expC, Ex.eUn, Ex.eBin, Ex.eIs, Ex.eIn, Ex.eBtw, Ex.zaY, Ex.eVal, Ex.eCol, Ex.eCase, Ex.eFn, Ex.eAgg, Ex.za0, Ex.v0]; first | done | rfl | exact ⟨rfl, rfl⟩)), rfl, hlthmo⟩
     ·clear h5
      refine cp 0 (zaH hL hq2 hmo) ?_
      rintro o e' ⟨rfl, he⟩
      simp only [List.cons.injEq, and_true] at he
      subst he
      refine pq ?_
      exact ⟨rfl, rfl, hq2⟩
    ·have hcq2 := h0 m (p + 1) _ (by omega) hlt0 hz
     clear hz hr
     refine cp 0 (hcq2) ?_
     rintro o e' ⟨rfl, he, hq2⟩
     simp only [List.cons.injEq, and_true] at he
     subst he
     refine pq ?_
     exact ⟨rfl, rfl, hq2⟩
  ·rw [if_neg (by simp [Ex.zbr])] at hr
   cases hd : Ex.isT (L.map (·.1)) p 2 Ex.wDistinct
   ·rw [hd] at hr; try dsimp only at hr
    rw [if_neg (by simp)] at hr
    refine wk ?_
    refine kw (zaP hL hp hd) ?_
    rcases Ex.then1_some hr with ⟨e2, q2, hz, h5⟩ | ⟨q2, hz, rfl⟩
    ·have hcq2 := h0 m (p) _ (by omega) hp hz
     clear hz hr
     refine cp 0 (hcq2) ?_
     rintro o e' ⟨rfl, he, hq2⟩
     simp only [List.cons.injEq, and_true] at he
     subst he
     show wpR _ _ _ _ _ (X.put _ _ _ [(0, prsE L _)])
     refine wk ?_
     rcases Ex.need_some h5 with ⟨hmo, h5m⟩ | ⟨hmo, rfl⟩
     ·have hlthmo := (by simpa using Ex.isT_lt hmo : _ < L.length)
      clear h5
      refine kw (zaG hL hmo) ?_
      cases h5m
      refine rt ?_
      exact ⟨(by first | rfl | (simp [expC, Ex.eUn, Ex.eBin, Ex.eIs, Ex.eIn, Ex.eBtw, Ex.zaY, Ex.eVal, Ex.eCol, Ex.eCase, Ex.eFn, Ex.eAgg, Ex.za0, Ex.v0]; first | done | rfl | exact ⟨rfl, rfl⟩)), rfl, hlthmo⟩
     ·clear h5
      refine cp 0 (zaH hL hq2 hmo) ?_
      rintro o e' ⟨rfl, he⟩
      simp only [List.cons.injEq, and_true] at he
      subst he
      refine pq ?_
      exact ⟨rfl, rfl, hq2⟩
    ·have hcq2 := h0 m (p) _ (by omega) hp hz
     clear hz hr
     refine cp 0 (hcq2) ?_
     rintro o e' ⟨rfl, he, hq2⟩
     simp only [List.cons.injEq, and_true] at he
     subst he
     refine pq ?_
     exact ⟨rfl, rfl, hq2⟩
   ·rw [hd] at hr; try dsimp only at hr
    have hlt0 : p < L.length := by simpa using Ex.isT_lt hd
    rw [if_pos rfl] at hr
    refine wk ?_
    refine kw (za1 hL hd) ?_
    rcases Ex.then1_some hr with ⟨e2, q2, hz, h5⟩ | ⟨q2, hz, rfl⟩
    ·have hcq2 := h0 m (p + 1) _ (by omega) hlt0 hz
     clear hz hr
     refine cp 0 (hcq2) ?_
     rintro o e' ⟨rfl, he, hq2⟩
     simp only [List.cons.injEq, and_true] at he
     subst he
     show wpR _ _ _ _ _ (X.put _ _ _ [(0, prsE L _)])
     refine wk ?_
     rcases Ex.need_some h5 with ⟨hmo, h5m⟩ | ⟨hmo, rfl⟩
     ·have hlthmo := (by simpa using Ex.isT_lt hmo : _ < L.length)
      clear h5
      refine kw (zaG hL hmo) ?_
      cases h5m
      refine rt ?_
      exact ⟨(by first | rfl | (simp [expC, Ex.eUn, Ex.eBin, Ex.eIs, Ex.eIn, Ex.eBtw, Ex.zaY, Ex.eVal, Ex.eCol, Ex.eCase, Ex.eFn, Ex.eAgg, Ex.za0, Ex.v0]; first | done | rfl | exact ⟨rfl, rfl⟩)), rfl, hlthmo⟩
     ·clear h5
      refine cp 0 (zaH hL hq2 hmo) ?_
      rintro o e' ⟨rfl, he⟩
      simp only [List.cons.injEq, and_true] at he
      subst he
      refine pq ?_
      exact ⟨rfl, rfl, hq2⟩
    ·have hcq2 := h0 m (p + 1) _ (by omega) hlt0 hz
     clear hz hr
     refine cp 0 (hcq2) ?_
     rintro o e' ⟨rfl, he, hq2⟩
     simp only [List.cons.injEq, and_true] at he
     subst he
     refine pq ?_
     exact ⟨rfl, rfl, hq2⟩
  ·rw [if_neg (by simp [Ex.zbr])] at hr
   cases hd : Ex.isT (L.map (·.1)) p 2 Ex.wDistinct
   ·rw [hd] at hr; try dsimp only at hr
    rw [if_neg (by simp)] at hr
    refine wk ?_
    refine kw (zaP hL hp hd) ?_
    rcases Ex.then1_some hr with ⟨e2, q2, hz, h5⟩ | ⟨q2, hz, rfl⟩
    ·have hcq2 := h0 m (p) _ (by omega) hp hz
     clear hz hr
     refine cp 0 (hcq2) ?_
     rintro o e' ⟨rfl, he, hq2⟩
     simp only [List.cons.injEq, and_true] at he
     subst he
     show wpR _ _ _ _ _ (X.put _ _ _ [(0, prsE L _)])
     refine wk ?_
     rcases Ex.need_some h5 with ⟨hmo, h5m⟩ | ⟨hmo, rfl⟩
     ·have hlthmo := (by simpa using Ex.isT_lt hmo : _ < L.length)
      clear h5
      refine kw (zaG hL hmo) ?_
      cases h5m
      refine rt ?_
      exact ⟨(by first | rfl | (simp [expC, Ex.eUn, Ex.eBin, Ex.eIs, Ex.eIn, Ex.eBtw, Ex.zaY, Ex.eVal, Ex.eCol, Ex.eCase, Ex.eFn, Ex.eAgg, Ex.za0, Ex.v0]; first | done | rfl | exact ⟨rfl, rfl⟩)), rfl, hlthmo⟩
     ·clear h5
      refine cp 0 (zaH hL hq2 hmo) ?_
      rintro o e' ⟨rfl, he⟩
      simp only [List.cons.injEq, and_true] at he
      subst he
      refine pq ?_
      exact ⟨rfl, rfl, hq2⟩
    ·have hcq2 := h0 m (p) _ (by omega) hp hz
     clear hz hr
     refine cp 0 (hcq2) ?_
     rintro o e' ⟨rfl, he, hq2⟩
     simp only [List.cons.injEq, and_true] at he
     subst he
     refine pq ?_
     exact ⟨rfl, rfl, hq2⟩
   ·rw [hd] at hr; try dsimp only at hr
    have hlt0 : p < L.length := by simpa using Ex.isT_lt hd
    rw [if_pos rfl] at hr
    refine wk ?_
    refine kw (za1 hL hd) ?_
    rcases Ex.then1_some hr with ⟨e2, q2, hz, h5⟩ | ⟨q2, hz, rfl⟩
    ·have hcq2 := h0 m (p + 1) _ (by omega) hlt0 hz
     clear hz hr
     refine cp 0 (hcq2) ?_
     rintro o e' ⟨rfl, he, hq2⟩
     simp only [List.cons.injEq, and_true] at he
     subst he
     show wpR _ _ _ _ _ (X.put _ _ _ [(0, prsE L _)])
     refine wk ?_
     rcases Ex.need_some h5 with ⟨hmo, h5m⟩ | ⟨hmo, rfl⟩
     ·have hlthmo := (by simpa using Ex.isT_lt hmo : _ < L.length)
      clear h5
      refine kw (zaG hL hmo) ?_
      cases h5m
      refine rt ?_
      exact ⟨(by first | rfl | (simp [expC, Ex.eUn, Ex.eBin, Ex.eIs, Ex.eIn, Ex.eBtw, Ex.zaY, Ex.eVal, Ex.eCol, Ex.eCase, Ex.eFn, Ex.eAgg, Ex.za0, Ex.v0]; first | done | rfl | exact ⟨rfl, rfl⟩)), rfl, hlthmo⟩
     ·clear h5
      refine cp 0 (zaH hL hq2 hmo) ?_
      rintro o e' ⟨rfl, he⟩
      simp only [List.cons.injEq, and_true] at he
      subst he
      refine pq ?_
      exact ⟨rfl, rfl, hq2⟩
    ·have hcq2 := h0 m (p + 1) _ (by omega) hlt0 hz
     clear hz hr
     refine cp 0 (hcq2) ?_
     rintro o e' ⟨rfl, he, hq2⟩
     simp only [List.cons.injEq, and_true] at he
     subst he
     refine pq ?_
     exact ⟨rfl, rfl, hq2⟩
  ·rw [if_neg (by simp [Ex.zbr])] at hr
   cases hd : Ex.isT (L.map (·.1)) p 2 Ex.wDistinct
   ·rw [hd] at hr; try dsimp only at hr
    rw [if_neg (by simp)] at hr
    refine wk ?_
    refine kw (zaP hL hp hd) ?_
    rcases Ex.then1_some hr with ⟨e2, q2, hz, h5⟩ | ⟨q2, hz, rfl⟩
    ·have hcq2 := h0 m (p) _ (by omega) hp hz
     clear hz hr
     refine cp 0 (hcq2) ?_
     rintro o e' ⟨rfl, he, hq2⟩
     simp only [List.cons.injEq, and_true] at he
     subst he
     show wpR _ _ _ _ _ (X.put _ _ _ [(0, prsE L _)])
     refine wk ?_
     rcases Ex.need_some h5 with ⟨hmo, h5m⟩ | ⟨hmo, rfl⟩
     ·have hlthmo := (by simpa using Ex.isT_lt hmo : _ < L.length)
      clear h5
      refine kw (zaG hL hmo) ?_
      cases h5m
      refine rt ?_
      exact ⟨(by first | rfl | (simp [expC, Ex.eUn, Ex.eBin, Ex.eIs, Ex.eIn, Ex.eBtw, Ex.zaY, Ex.eVal, Ex.eCol, Ex.eCase, Ex.eFn, Ex.eAgg, Ex.za0, Ex.v0]; first | done | rfl | exact ⟨rfl, rfl⟩)), rfl, hlthmo⟩
     ·clear h5
      refine cp 0 (zaH hL hq2 hmo) ?_
      rintro o e' ⟨rfl, he⟩
      simp only [List.cons.injEq, and_true] at he
      subst he
      refine pq ?_
      exact ⟨rfl, rfl, hq2⟩
    ·have hcq2 := h0 m (p) _ (by omega) hp hz
     clear hz hr
     refine cp 0 (hcq2) ?_
     rintro o e' ⟨rfl, he, hq2⟩
     simp only [List.cons.injEq, and_true] at he
     subst he
     refine pq ?_
     exact ⟨rfl, rfl, hq2⟩
   ·rw [hd] at hr; try dsimp only at hr
    have hlt0 : p < L.length := by simpa using Ex.isT_lt hd
    rw [if_pos rfl] at hr
    refine wk ?_
    refine kw (za1 hL hd) ?_
    rcases Ex.then1_some hr with ⟨e2, q2, hz, h5⟩ | ⟨q2, hz, rfl⟩
    ·have hcq2 := h0 m (p + 1) _ (by omega) hlt0 hz
     clear hz hr
     refine cp 0 (hcq2) ?_
     rintro o e' ⟨rfl, he, hq2⟩
     simp only [List.cons.injEq, and_true] at he
     subst he
     show wpR _ _ _ _ _ (X.put _ _ _ [(0, prsE L _)])
     refine wk ?_
     rcases Ex.need_some h5 with ⟨hmo, h5m⟩ | ⟨hmo, rfl⟩
     ·have hlthmo := (by simpa using Ex.isT_lt hmo : _ < L.length)
      clear h5
      refine kw (zaG hL hmo) ?_
      cases h5m
      refine rt ?_
      exact ⟨(by first | rfl | (simp [expC, Ex.eUn, Ex.eBin, Ex.eIs, Ex.eIn, Ex.eBtw, Ex.zaY, Ex.eVal, Ex.eCol, Ex.eCase, Ex.eFn, Ex.eAgg, Ex.za0, Ex.v0]; first | done | rfl | exact ⟨rfl, rfl⟩)), rfl, hlthmo⟩
     ·clear h5
      refine cp 0 (zaH hL hq2 hmo) ?_
      rintro o e' ⟨rfl, he⟩
      simp only [List.cons.injEq, and_true] at he
      subst he
      refine pq ?_
      exact ⟨rfl, rfl, hq2⟩
    ·have hcq2 := h0 m (p + 1) _ (by omega) hlt0 hz
     clear hz hr
     refine cp 0 (hcq2) ?_
     rintro o e' ⟨rfl, he, hq2⟩
     simp only [List.cons.injEq, and_true] at he
     subst he
     refine pq ?_
     exact ⟨rfl, rfl, hq2⟩
 ·have hopc : ¬ Ex.aggs.contains op = true := by simpa using hop
  rw [Ex.zjJ, if_neg hopc] at hr
  clear hopc
  simp only [Ex.aggs, Ex.zbr, List.mem_cons, List.mem_nil_iff, or_false, not_or] at hop
  obtain ⟨g1, g2, g3, g4, g5, g6⟩ := hop
  replace g1 : (op = [99, 111, 117, 110, 116]) = False := eq_false g1; replace g2 : (op = [115, 117, 109]) = False := eq_false g2; replace g3 : (op = [109, 105, 110]) = False := eq_false g3; replace g4 : (op = [109, 97, 120]) = False := eq_false g4; replace g5 : (op = [97, 118, 103]) = False := eq_false g5; replace g6 : (op = [116, 111, 116, 97, 108]) = False := eq_false g6
  refine wk ?_
  cases hst : Ex.isT (L.map (·.1)) p 4 Ex.zbh
  ·rw [if_neg (by simp [hst])] at hr
   refine kw (zcK hL hp hst) ?_
   rcases Ex.thenL_some hr with ⟨l, q3, hl1, hl2⟩ | ⟨q3, hl1, rfl⟩
   ·have hcl := hls m p _ (by omega) hp hl1
    clear hl1 hr
    refine cp 0 (hcl) ?_
    rintro o e' ⟨rfl, he, hq3, hll⟩
    simp only [List.cons.injEq, and_true] at he
    subst he
    show wpR _ _ _ _ _ (X.put _ _ _ [(0, prsE L _)])
    refine wk ?_
    cases hl2
    refine rt ?_
    exact ⟨(by first | rfl | (simp [expC, Ex.eUn, Ex.eBin, Ex.eIs, Ex.eIn, Ex.eBtw, Ex.zaY, Ex.eVal, Ex.eCol, Ex.eCase, Ex.eFn, Ex.eAgg, Ex.za0, Ex.v0]; first | done | rfl | exact ⟨rfl, rfl⟩)), rfl, hq3⟩
   ·have hcl := hls m p _ (by omega) hp hl1
    clear hl1 hr
    refine cp 0 (hcl) ?_
    rintro o e' ⟨rfl, he, hq3⟩
    simp only [List.cons.injEq, and_true] at he
    subst he
    refine pq ?_
    exact ⟨rfl, rfl, hq3⟩
  ·rw [if_pos hst] at hr
   have hlts : p < L.length := by simpa using Ex.isT_lt hst
   cases hr
   refine kw (zdG hL hst) ?_
   refine rt ?_
   exact ⟨(by first | rfl | (simp [expC, Ex.eUn, Ex.eBin, Ex.eIs, Ex.eIn, Ex.eBtw, Ex.zaY, Ex.eVal, Ex.eCol, Ex.eCase, Ex.eFn, Ex.eAgg, Ex.za0, Ex.v0]; first | done | rfl | exact ⟨rfl, rfl⟩)), rfl, hlts⟩
set_option maxHeartbeats 8000000 in
theorem m_named (hL : L.length ≤ 999999) (h0 : Lvl G L 41 0 n) (hls : LstC G L n) (m p : Nat) (r : Ex.R) (nm : List UInt8) (hm : m ≤ n) (hp : p ≤ L.length) (hnm : nm.length ≤ 1000000) (hr : Ex.zhD (L.map (·.1)) m nm p = some r) :
  zaN Tryz.prog G 152 [.ptr 0 0, .str nm] [prsE L p] (zh3 L r) := by
 refine zaM (zeW G) (by simp) (by simp [L_expr_parser_named]) ?_
 show wpC _ _ 1 (panK 1 _) _ (retK 1 _ _) (mkX [(0, _), (1, _)] [(0, _)])
 simp only [L_expr_parser_named, zs, za, zl, zc, zE, prsE]
 have x0 := zx; have hpr : ∀ q f, (prsE L q).on f = true := fun _ _ => rfl
 have h7z : tok0 = .agg [.int .i64 0, .str [], .int .i64 0, .int .i64 0, .str [], .int .i64 0] := rfl
 refine wk ?_
 unfold Ex.zhD at hr
 cases hd : Ex.isT (L.map (·.1)) p 4 Ex.mDot
 rotate_left
 ·rw [if_pos hd] at hr
  have hlt : p < L.length := by simpa using Ex.isT_lt hd
  refine kw (zdG hL hd) ?_
  cases h2 : L[p + 1]? with
  | none =>
   rw [List.getElem?_map, h2] at hr; dsimp only [Option.map] at hr
   cases hr
   refine kw (zeq hL hlt (by simp [h2])) ?_
   refine cp 0 (zdF G L (p + 1)) ?_
   rintro o e' ⟨rfl, he⟩
   simp only [List.cons.injEq, and_true] at he
   subst he
   refine pq ?_
   exact ⟨rfl, rfl, hlt⟩
  | some u =>
   rw [List.getElem?_map, h2] at hr; dsimp only [Option.map] at hr
   have hlt2 : p + 1 < L.length := (List.getElem?_eq_some_iff.1 h2).1
   by_cases hk : u.1.kind = 1
   ·rw [if_pos hk] at hr
    cases hr
    have h7a : tokM u = .agg [.int .i64 u.1.kind, .str u.1.text, .int .i64 u.1.val.1, .int .i64 u.1.val.2.1, .str u.1.val.2.2, .int .i64 (u.2 : Int)] := rfl
    have hc2 := zjy (G := G) hL hlt h2 hk
    clear hk
    refine kw (hc2) ?_
    refine rt ?_
    exact ⟨(by first | rfl | (simp [expC, Ex.eUn, Ex.eBin, Ex.eIs, Ex.eIn, Ex.eBtw, Ex.zaY, Ex.eVal, Ex.eCol, Ex.eCase, Ex.eFn, Ex.eAgg, Ex.za0, Ex.v0]; first | done | rfl | exact ⟨rfl, rfl⟩)), rfl, hlt2⟩
   ·rw [if_neg hk] at hr
    cases hr
    have hc2 := zeq (G := G) (k := 1) hL hlt (by simp [h2, hk])
    clear hk
    refine kw (hc2) ?_
    refine cp 0 (zdF G L (p + 1)) ?_
    rintro o e' ⟨rfl, he⟩
    simp only [List.cons.injEq, and_true] at he
    subst he
    refine pq ?_
    exact ⟨rfl, rfl, hlt⟩
 rw [if_neg (by simp [hd])] at hr
 refine kw (zcK hL hp hd) ?_
 cases ho : Ex.isT (L.map (·.1)) p 4 Ex.zbv
 ·rw [if_neg (by simp [ho])] at hr
  cases hr
  refine kw (zcK hL hp ho) ?_
  refine rt ?_
  exact ⟨(by first | rfl | (simp [expC, Ex.eUn, Ex.eBin, Ex.eIs, Ex.eIn, Ex.eBtw, Ex.zaY, Ex.eVal, Ex.eCol, Ex.eCase, Ex.eFn, Ex.eAgg, Ex.za0, Ex.v0]; first | done | rfl | exact ⟨rfl, rfl⟩)), rfl, hp⟩
 ·rw [if_pos ho] at hr
  have hlt : p < L.length := by simpa using Ex.isT_lt ho
  have hc := m_call hL h0 hls m (p + 1) r (Lx.fold nm) hm hlt hr
  clear hr
  refine kw (zdG hL ho) ?_
  refine c0 (zkz hnm) ?_
  rintro o ⟨rfl, _⟩
  dsimp only
  refine wk ?_
  refine cp 0 (hc) ?_
  intro o e' hR
  rcases partM_cases hR with ⟨e, q, rfl, rfl, he, hq⟩ | ⟨q, rfl, rfl, he, hq⟩
  rotate_left
  ·simp only [List.cons.injEq, and_true] at he; subst he; refine pq ?_; exact ⟨rfl, rfl, hq⟩
  simp only [List.cons.injEq, and_true] at he
  subst he
  show wpR _ _ _ _ _ (X.put _ _ _ [(0, prsE L q)])
  refine wk ?_
  refine rt ?_
  exact ⟨rfl, rfl, hq⟩
set_option maxHeartbeats 16000000 in
theorem m_cast (hL : L.length ≤ 999999) (hT : Good L) (h0 : Lvl G L 41 0 n) (m p : Nat) (r : Ex.R) (hm : m ≤ n) (hp : p ≤ L.length) (hr : Ex.zkR (L.map (·.1)) m p = some r) :
  zaN Tryz.prog G 154 [.ptr 0 0] [prsE L p] (zh3 L r) := by
 refine zaM (zfA G) (by simp) (by simp [L_expr_parser_cast]) ?_
 show wpC _ _ 1 (panK 1 _) _ (retK 1 _ _) (mkX [(0, _)] [(0, _)])
 simp only [L_expr_parser_cast, zs, za, zl, zc, zE, prsE]
 have x0 := zx; have hpr : ∀ q f, (prsE L q).on f = true := fun _ _ => rfl
 refine wk ?_
 unfold Ex.zkR at hr
 rcases Ex.need_some hr with ⟨hmo1, hrm⟩ | ⟨hmo1, rfl⟩
 ·have hlthmo1 := (by simpa using Ex.isT_lt hmo1 : _ < L.length)
  clear hr
  refine kw (zaG hL hmo1) ?_
  rcases Ex.then1_some hrm with ⟨e2, q2, hz, h5⟩ | ⟨q2, hz, rfl⟩
  ·have hcq2 := h0 m (p + 1) _ (by omega) hlthmo1 hz
   clear hz hrm
   refine cp 0 (hcq2) ?_
   rintro o e' ⟨rfl, he, hq2⟩
   simp only [List.cons.injEq, and_true] at he
   subst he
   show wpR _ _ _ _ _ (X.put _ _ _ [(0, prsE L _)])
   refine wk ?_
   rcases Ex.need_some h5 with ⟨hmo2, h5m⟩ | ⟨hmo2, rfl⟩
   ·have hlthmo2 := (by simpa using Ex.isT_lt hmo2 : _ < L.length)
    clear h5
    have hc1 := zaG (G := G) hL hmo2
    obtain ⟨r2, hr2⟩ : ∃ r2, r2 = q2 + 1 := ⟨_, rfl⟩
    rw [← hr2] at h5m hc1
    have hq1 : r2 ≤ L.length := by omega
    clear hr2 hlthmo2 hmo2
    refine kp (hc1) ?_
    simp only [prsE]
    cases h2 : L[r2]? with
    | none =>
     rw [List.getElem?_map, h2] at h5m; dsimp only [Option.map] at h5m
     cases h5m
     have h1 : ((r2 : Int) < (L.length : Int)) = False := by simp at h2 ⊢; omega
     refine wk ?_
     refine cp 0 (zdF G L r2) ?_
     rintro o e' ⟨rfl, he⟩
     simp only [List.cons.injEq, and_true] at he
     subst he
     refine pq ?_
     exact ⟨rfl, rfl, hq1⟩
    | some u =>
     rw [List.getElem?_map, h2] at h5m; dsimp only [Option.map] at h5m
     have hlt : r2 < L.length := (List.getElem?_eq_some_iff.1 h2).1
     have h1 : ((r2 : Int) < (L.length : Int)) = True := by simp; omega
     have h7a : tokM u = .agg [.int .i64 u.1.kind, .str u.1.text, .int .i64 u.1.val.1, .int .i64 u.1.val.2.1, .str u.1.val.2.2, .int .i64 (u.2 : Int)] := rfl
     have h2b : ∀ h : r2 < L.length, L[r2]'h = u := fun h => (List.getElem?_eq_some_iff.1 h2).2
     obtain ⟨hN, hN1, hN2⟩ := hT _ _ h2
     clear hN1 hN2
     have hq2 : r2 + 1 ≤ L.length := hlt
     clear hlt
     by_cases hk : u.1.kind = 2
     ·have hk' : (u.1.kind = 2) = True := by simpa using hk
      by_cases hty : Ex.zdN.contains (Lx.fold u.1.text) = true
      ·rw [if_pos (by rw [hty]; simp [hk])] at h5m
       have hmem : Lx.fold u.1.text ∈ Ex.zdN := by simpa using hty
       clear hk hty
       simp only [Ex.zdN, List.mem_cons, List.mem_nil_iff, or_false] at hmem
       generalize hfo : Lx.fold u.1.text = fo at hmem h5m
       have hc2 := zkz (G := G) hN
       rw [hfo] at hc2
       clear hfo
       rcases hmem with rfl | rfl | rfl
       ·refine wk ?_
        refine c0 (hc2) ?_
        rintro o ⟨rfl, _⟩
        dsimp only
        refine wk ?_
        rcases Ex.need_some h5m with ⟨hmo, h5mm⟩ | ⟨hmo, rfl⟩
        ·have hlthmo := (by simpa using Ex.isT_lt hmo : _ < L.length)
         clear h5m
         refine kw (zaG hL hmo) ?_
         cases h5mm
         refine rt ?_
         exact ⟨(by first | rfl | (simp [expC, Ex.eUn, Ex.eBin, Ex.eIs, Ex.eIn, Ex.eBtw, Ex.zaY, Ex.eVal, Ex.eCol, Ex.eCase, Ex.eFn, Ex.eAgg, Ex.za0, Ex.v0]; first | done | rfl | exact ⟨rfl, rfl⟩)), rfl, hlthmo⟩
        ·clear h5m
         refine cp 0 (zaH hL hq2 hmo) ?_
         rintro o e' ⟨rfl, he⟩
         simp only [List.cons.injEq, and_true] at he
         subst he
         refine pq ?_
         exact ⟨rfl, rfl, hq2⟩
       ·refine wk ?_
        refine c0 (hc2) ?_
        rintro o ⟨rfl, _⟩
        dsimp only
        refine wk ?_
        rcases Ex.need_some h5m with ⟨hmo, h5mm⟩ | ⟨hmo, rfl⟩
        ·have hlthmo := (by simpa using Ex.isT_lt hmo : _ < L.length)
         clear h5m
         refine kw (zaG hL hmo) ?_
         cases h5mm
         refine rt ?_
         exact ⟨(by first | rfl | (simp [expC, Ex.eUn, Ex.eBin, Ex.eIs, Ex.eIn, Ex.eBtw, Ex.zaY, Ex.eVal, Ex.eCol, Ex.eCase, Ex.eFn, Ex.eAgg, Ex.za0, Ex.v0]; first | done | rfl | exact ⟨rfl, rfl⟩)), rfl, hlthmo⟩
        ·clear h5m
         refine cp 0 (zaH hL hq2 hmo) ?_
         rintro o e' ⟨rfl, he⟩
         simp only [List.cons.injEq, and_true] at he
         subst he
         refine pq ?_
         exact ⟨rfl, rfl, hq2⟩
       ·refine wk ?_
        refine c0 (hc2) ?_
        rintro o ⟨rfl, _⟩
        dsimp only
        refine wk ?_
        rcases Ex.need_some h5m with ⟨hmo, h5mm⟩ | ⟨hmo, rfl⟩
        ·have hlthmo := (by simpa using Ex.isT_lt hmo : _ < L.length)
         clear h5m
         refine kw (zaG hL hmo) ?_
         cases h5mm
         refine rt ?_
         exact ⟨(by first | rfl | (simp [expC, Ex.eUn, Ex.eBin, Ex.eIs, Ex.eIn, Ex.eBtw, Ex.zaY, Ex.eVal, Ex.eCol, Ex.eCase, Ex.eFn, Ex.eAgg, Ex.za0, Ex.v0]; first | done | rfl | exact ⟨rfl, rfl⟩)), rfl, hlthmo⟩
        ·clear h5m
         refine cp 0 (zaH hL hq2 hmo) ?_
         rintro o e' ⟨rfl, he⟩
         simp only [List.cons.injEq, and_true] at he
         subst he
         refine pq ?_
         exact ⟨rfl, rfl, hq2⟩
      ·rw [if_neg (by rw [eq_false_of_ne_true hty]; simp)] at h5m
       cases h5m
       have hmem : Lx.fold u.1.text ∉ Ex.zdN := by simpa using hty
       clear hk hty
       simp only [Ex.zdN, List.mem_cons, List.mem_nil_iff, or_false, not_or] at hmem
       generalize hfo : Lx.fold u.1.text = fo at hmem
       have hc2 := zkz (G := G) hN
       rw [hfo] at hc2
       clear hfo
       obtain ⟨g1, g2, g3⟩ := hmem
       replace g1 : (fo = [105, 110, 116]) = False := eq_false g1; replace g2 : (fo = [116, 101, 120, 116]) = False := eq_false g2; replace g3 : (fo = [98, 108, 111, 98]) = False := eq_false g3
       refine wk ?_
       refine c0 (hc2) ?_
       rintro o ⟨rfl, _⟩
       dsimp only
       refine wk ?_
       refine cp 0 (zdF G L r2) ?_
       rintro o e' ⟨rfl, he⟩
       simp only [List.cons.injEq, and_true] at he
       subst he
       refine pq ?_
       exact ⟨rfl, rfl, hq1⟩
     ·have hk' : (u.1.kind = 2) = False := by simpa using hk
      clear hk
      by_cases hk : u.1.kind = 1
      ·have hk2 : (u.1.kind = 1) = True := by simpa using hk
       by_cases hty : Ex.zdN.contains (Lx.fold u.1.text) = true
       ·rw [if_pos (by rw [hty]; simp [hk])] at h5m
        have hmem : Lx.fold u.1.text ∈ Ex.zdN := by simpa using hty
        clear hk hty
        simp only [Ex.zdN, List.mem_cons, List.mem_nil_iff, or_false] at hmem
        generalize hfo : Lx.fold u.1.text = fo at hmem h5m
        have hc2 := zkz (G := G) hN
        rw [hfo] at hc2
        clear hfo
        rcases hmem with rfl | rfl | rfl
        ·refine wk ?_
         refine c0 (hc2) ?_
         rintro o ⟨rfl, _⟩
         dsimp only
         refine wk ?_
         rcases Ex.need_some h5m with ⟨hmo, h5mm⟩ | ⟨hmo, rfl⟩
         ·have hlthmo := (by simpa using Ex.isT_lt hmo : _ < L.length)
          clear h5m
          refine kw (zaG hL hmo) ?_
          cases h5mm
          refine rt ?_
          exact ⟨(by first | rfl | (simp [expC, Ex.eUn, Ex.eBin, Ex.eIs, Ex.eIn, Ex.eBtw, Ex.zaY, Ex.eVal, Ex.eCol, Ex.eCase, Ex.eFn, Ex.eAgg, Ex.za0, Ex.v0]; first | done | rfl | exact ⟨rfl, rfl⟩)), rfl, hlthmo⟩
         ·clear h5m
          refine cp 0 (zaH hL hq2 hmo) ?_
          rintro o e' ⟨rfl, he⟩
          simp only [List.cons.injEq, and_true] at he
          subst he
          refine pq ?_
          exact ⟨rfl, rfl, hq2⟩
        ·refine wk ?_
         refine c0 (hc2) ?_
         rintro o ⟨rfl, _⟩
         dsimp only
         refine wk ?_
         rcases Ex.need_some h5m with ⟨hmo, h5mm⟩ | ⟨hmo, rfl⟩
         ·have hlthmo := (by simpa using Ex.isT_lt hmo : _ < L.length)
          clear h5m
          refine kw (zaG hL hmo) ?_
          cases h5mm
          refine rt ?_
          exact ⟨(by first | rfl | (simp [expC, Ex.eUn, Ex.eBin, Ex.eIs, Ex.eIn, Ex.eBtw, Ex.zaY, Ex.eVal, Ex.eCol, Ex.eCase, Ex.eFn, Ex.eAgg, Ex.za0, Ex.v0]; first | done | rfl | exact ⟨rfl, rfl⟩)), rfl, hlthmo⟩
         ·clear h5m
          refine cp 0 (zaH hL hq2 hmo) ?_
          rintro o e' ⟨rfl, he⟩
          simp only [List.cons.injEq, and_true] at he
          subst he
          refine pq ?_
          exact ⟨rfl, rfl, hq2⟩
        ·refine wk ?_
         refine c0 (hc2) ?_
         rintro o ⟨rfl, _⟩
         dsimp only
         refine wk ?_
         rcases Ex.need_some h5m with ⟨hmo, h5mm⟩ | ⟨hmo, rfl⟩
         ·have hlthmo := (by simpa using Ex.isT_lt hmo : _ < L.length)
          clear h5m
          refine kw (zaG hL hmo) ?_
          cases h5mm
          refine rt ?_
          exact ⟨(by first | rfl | (simp [expC, Ex.eUn, Ex.eBin, Ex.eIs, Ex.eIn, Ex.eBtw, Ex.zaY, Ex.eVal, Ex.eCol, Ex.eCase, Ex.eFn, Ex.eAgg, Ex.za0, Ex.v0]; first | done | rfl | exact ⟨rfl, rfl⟩)), rfl, hlthmo⟩
         ·clear h5m
          refine cp 0 (zaH hL hq2 hmo) ?_
          rintro o e' ⟨rfl, he⟩
          simp only [List.cons.injEq, and_true] at he
          subst he
          refine pq ?_
          exact ⟨rfl, rfl, hq2⟩
       ·rw [if_neg (by rw [eq_false_of_ne_true hty]; simp)] at h5m
        cases h5m
        have hmem : Lx.fold u.1.text ∉ Ex.zdN := by simpa using hty
        clear hk hty
        simp only [Ex.zdN, List.mem_cons, List.mem_nil_iff, or_false, not_or] at hmem
        generalize hfo : Lx.fold u.1.text = fo at hmem
        have hc2 := zkz (G := G) hN
        rw [hfo] at hc2
        clear hfo
        obtain ⟨g1, g2, g3⟩ := hmem
        replace g1 : (fo = [105, 110, 116]) = False := eq_false g1; replace g2 : (fo = [116, 101, 120, 116]) = False := eq_false g2; replace g3 : (fo = [98, 108, 111, 98]) = False := eq_false g3
        refine wk ?_
        refine c0 (hc2) ?_
        rintro o ⟨rfl, _⟩
        dsimp only
        refine wk ?_
        refine cp 0 (zdF G L r2) ?_
        rintro o e' ⟨rfl, he⟩
        simp only [List.cons.injEq, and_true] at he
        subst he
        refine pq ?_
        exact ⟨rfl, rfl, hq1⟩
      ·have hk2 : (u.1.kind = 1) = False := by simpa using hk
       rw [if_neg (by simp [hk', hk2])] at h5m
       cases h5m
       clear hk
       refine wk ?_
       refine cp 0 (zdF G L r2) ?_
       rintro o e' ⟨rfl, he⟩
       simp only [List.cons.injEq, and_true] at he
       subst he
       refine pq ?_
       exact ⟨rfl, rfl, hq1⟩
   ·clear h5
    refine cp 0 (zaH hL hq2 hmo2) ?_
    rintro o e' ⟨rfl, he⟩
    simp only [List.cons.injEq, and_true] at he
    subst he
    refine pq ?_
    exact ⟨rfl, rfl, hq2⟩
  ·have hcq2 := h0 m (p + 1) _ (by omega) hlthmo1 hz
   clear hz hrm
   refine cp 0 (hcq2) ?_
   rintro o e' ⟨rfl, he, hq2⟩
   simp only [List.cons.injEq, and_true] at he
   subst he
   refine pq ?_
   exact ⟨rfl, rfl, hq2⟩
 ·clear hr
  refine cp 0 (zaH hL hp hmo1) ?_
  rintro o e' ⟨rfl, he⟩
  simp only [List.cons.injEq, and_true] at he
  subst he
  refine pq ?_
  exact ⟨rfl, rfl, hp⟩
end
end Go.Proofs.YtakegkongmnekaaGreatDoor
namespace Go.Proofs.YtakegkongmnekaaGreatDoor
open Go.RowKit
open Vm
section
variable {G : Nat → Vm.V} {L : List Lx.TA} {n : Nat}
def zfp (d : Bool) (a : Vm.V) : List Vm.V := [.int .i64 9, .str [], .int .i64 0, .int .i64 0, .str [], .str [], .str [], .int .i64 0, .bool false, .bool d, a]
def zf7 (L : List Lx.TA) (p : Nat) (d more : Bool) (acc : List Ex.E) : X :=
 if d = true then mkX [(0, .ptr 0 0), (2, .ptr 10 0), (3, .ptr 12 0), (4, .bool more)] [(0, prsE L p), (10, .blk 27 [.int .i64 0, .str [], .int .i64 0, .int .i64 0, .str [], .str [], .str [], .int .i64 0, .bool false, .bool false, .nils]), (12, .blk 27 (zfp true (.row 24 acc.length))), (24, .row 27 11 (acc.map fun e => .agg (expC e))), (43, .gone)]
 else if acc = [] then mkX [(0, .ptr 0 0), (2, .ptr 10 0), (3, .ptr 12 0), (4, .bool more)] [(0, prsE L p), (10, .blk 27 [.int .i64 0, .str [], .int .i64 0, .int .i64 0, .str [], .str [], .str [], .int .i64 0, .bool false, .bool false, .nils]), (12, .blk 27 (zfp false .nils)), (24, .gone), (43, .gone)]
 else mkX [(0, .ptr 0 0), (2, .ptr 10 0), (3, .ptr 12 0), (4, .bool more)] [(0, prsE L p), (10, .blk 27 [.int .i64 0, .str [], .int .i64 0, .int .i64 0, .str [], .str [], .str [], .int .i64 0, .bool false, .bool false, .nils]), (12, .blk 27 (zfp false (.row 43 acc.length))), (24, .gone), (43, .row 27 11 (acc.map fun e => .agg (expC e)))]
set_option maxHeartbeats 16000000 in
theorem m_plain (hL : L.length ≤ 999999) (hT : Good L) (h0 : Lvl G L 41 0 n) (hls : LstC G L n) (hcs : ∀ (m p : Nat) (r : Ex.R), m ≤ n → p ≤ L.length → Ex.zeI (L.map (·.1)) m p = some r → zaN Tryz.prog G 153 [.ptr 0 0] [prsE L p] (zh3 L r)) : Lvl G L 150 8 (n + 1) := by
 intro m p r hm hp hr
 cases m with
 | zero => cases hr
 | succ m =>
 rw [Ex.zdX] at hr
 refine zaM (zeV G) (by simp) (by simp [L_expr_parser_plain]) ?_
 show wpC _ _ 1 (panK 1 _) _ (retK 1 _ _) (mkX [(0, _)] [(0, _)])
 simp only [L_expr_parser_plain, zs, za, zl, zc, zE, prsE]
 have x0 := zx; have hpr : ∀ q f, (prsE L q).on f = true := fun _ _ => rfl
 have h7z : tok0 = .agg [.int .i64 0, .str [], .int .i64 0, .int .i64 0, .str [], .int .i64 0] := rfl
 refine wk ?_
 cases h2 : L[p]? with
 | none =>
  rw [List.getElem?_map, h2] at hr; dsimp only [Option.map] at hr
  cases hr
  have hno : ∀ k s, Ex.isT (L.map (·.1)) p k s = false := fun k s => by unfold Ex.isT; rw [List.getElem?_map, h2]; rfl
  refine kw (zeq hL hp (by simp [h2])) ?_
  refine kw (zeq hL hp (by simp [h2])) ?_
  refine kw (zaP hL hp (hno 2 Ex.zdk)) ?_
  refine kw (zaP hL hp (hno 2 Ex.wCase)) ?_
  refine kw (zaP hL hp (hno 2 Ex.zcI)) ?_
  refine kw (zcK hL hp (hno 4 Ex.zbv)) ?_
  refine cp 0 (zdF G L p) ?_
  rintro o e' ⟨rfl, he⟩
  simp only [List.cons.injEq, and_true] at he
  subst he
  refine pq ?_
  exact ⟨rfl, rfl, hp⟩
 | some t =>
  rw [List.getElem?_map, h2] at hr; dsimp only [Option.map] at hr
  have hlt : p < L.length := (List.getElem?_eq_some_iff.1 h2).1
  have h7a : tokM t = .agg [.int .i64 t.1.kind, .str t.1.text, .int .i64 t.1.val.1, .int .i64 t.1.val.2.1, .str t.1.val.2.2, .int .i64 (t.2 : Int)] := rfl
  by_cases hk3 : t.1.kind = 3
  ·rw [if_pos hk3] at hr
   cases hr
   have hc2 := zjy (G := G) hL hp h2 hk3
   clear hk3
   refine kw (hc2) ?_
   refine rt ?_
   exact ⟨(by first | rfl | (simp [expC, Ex.eUn, Ex.eBin, Ex.eIs, Ex.eIn, Ex.eBtw, Ex.zaY, Ex.eVal, Ex.eCol, Ex.eCase, Ex.eFn, Ex.eAgg, Ex.za0, Ex.v0]; first | done | rfl | exact ⟨rfl, rfl⟩)), rfl, hlt⟩
  rw [if_neg hk3] at hr
  have hc3 := zeq (G := G) (k := 3) hL hp (by simp [h2, hk3])
  refine kw (hc3) ?_
  by_cases hk1 : t.1.kind = 1
  ·rw [if_pos hk1] at hr
   have hc2 := zjy (G := G) hL hp h2 hk1
   have hc := m_named hL h0 hls m (p + 1) r t.1.text (by omega) hlt (hT _ _ h2).1 hr
   clear hk1 hk3 hr
   refine kw (hc2) ?_
   refine cp 0 (hc) ?_
   intro o e' hR
   rcases partM_cases hR with ⟨e, q, rfl, rfl, he, hq⟩ | ⟨q, rfl, rfl, he, hq⟩
   rotate_left
   ·simp only [List.cons.injEq, and_true] at he; subst he; refine pq ?_; exact ⟨rfl, rfl, hq⟩
   simp only [List.cons.injEq, and_true] at he
   subst he
   show wpR _ _ _ _ _ (X.put _ _ _ [(0, prsE L q)])
   refine wk ?_
   refine rt ?_
   exact ⟨rfl, rfl, hq⟩
  rw [if_neg hk1] at hr
  have hc1 := zeq (G := G) (k := 1) hL hp (by simp [h2, hk1])
  clear hk1 hk3
  refine kw (hc1) ?_
  clear hc1 hc3 h7a
  cases htwNull : Ex.isT (L.map (·.1)) p 2 Ex.zdk
  rotate_left
  ·rw [if_pos htwNull] at hr
   refine kw (za1 hL htwNull) ?_
   cases hr
   refine rt ?_
   exact ⟨(by first | rfl | (simp [expC, Ex.eUn, Ex.eBin, Ex.eIs, Ex.eIn, Ex.eBtw, Ex.zaY, Ex.eVal, Ex.eCol, Ex.eCase, Ex.eFn, Ex.eAgg, Ex.za0, Ex.v0]; first | done | rfl | exact ⟨rfl, rfl⟩)), rfl, hlt⟩
  rw [if_neg (by simp [htwNull])] at hr
  refine kw (zaP hL hp htwNull) ?_
  cases htwCase : Ex.isT (L.map (·.1)) p 2 Ex.wCase
  rotate_left
  ·rw [if_pos htwCase] at hr
   refine kw (za1 hL htwCase) ?_
   have hc := hcs m (p + 1) r (by omega) hlt hr
   clear hr
   refine cp 0 (hc) ?_
   intro o e' hR
   rcases partM_cases hR with ⟨e, q, rfl, rfl, he, hq⟩ | ⟨q, rfl, rfl, he, hq⟩
   rotate_left
   ·simp only [List.cons.injEq, and_true] at he; subst he; refine pq ?_; exact ⟨rfl, rfl, hq⟩
   simp only [List.cons.injEq, and_true] at he
   subst he
   show wpR _ _ _ _ _ (X.put _ _ _ [(0, prsE L q)])
   refine wk ?_
   refine rt ?_
   exact ⟨rfl, rfl, hq⟩
  rw [if_neg (by simp [htwCase])] at hr
  refine kw (zaP hL hp htwCase) ?_
  cases htwCast : Ex.isT (L.map (·.1)) p 2 Ex.zcI
  rotate_left
  ·rw [if_pos htwCast] at hr
   refine kw (za1 hL htwCast) ?_
   have hc := m_cast hL hT h0 m (p + 1) r (by omega) hlt hr
   clear hr
   refine cp 0 (hc) ?_
   intro o e' hR
   rcases partM_cases hR with ⟨e, q, rfl, rfl, he, hq⟩ | ⟨q, rfl, rfl, he, hq⟩
   rotate_left
   ·simp only [List.cons.injEq, and_true] at he; subst he; refine pq ?_; exact ⟨rfl, rfl, hq⟩
   simp only [List.cons.injEq, and_true] at he
   subst he
   show wpR _ _ _ _ _ (X.put _ _ _ [(0, prsE L q)])
   refine wk ?_
   refine rt ?_
   exact ⟨rfl, rfl, hq⟩
  rw [if_neg (by simp [htwCast])] at hr
  refine kw (zaP hL hp htwCast) ?_
  cases htmOpen : Ex.isT (L.map (·.1)) p 4 Ex.zbv
  rotate_left
  ·rw [if_pos htmOpen] at hr
   refine kw (zdG hL htmOpen) ?_
   rcases Ex.then1_some hr with ⟨e2, q2, hz, h5⟩ | ⟨q2, hz, rfl⟩
   ·have hcq2 := h0 m (p + 1) _ (by omega) hlt hz
    clear hz hr
    refine cp 0 (hcq2) ?_
    rintro o e' ⟨rfl, he, hq2⟩
    simp only [List.cons.injEq, and_true] at he
    subst he
    show wpR _ _ _ _ _ (X.put _ _ _ [(0, prsE L _)])
    refine wk ?_
    rcases Ex.need_some h5 with ⟨hmo, h5m⟩ | ⟨hmo, rfl⟩
    ·have hlthmo := (by simpa using Ex.isT_lt hmo : _ < L.length)
     clear h5
     refine kw (zaG hL hmo) ?_
     cases h5m
     refine rt ?_
     exact ⟨(by first | rfl | (simp [expC, Ex.eUn, Ex.eBin, Ex.eIs, Ex.eIn, Ex.eBtw, Ex.zaY, Ex.eVal, Ex.eCol, Ex.eCase, Ex.eFn, Ex.eAgg, Ex.za0, Ex.v0]; first | done | rfl | exact ⟨rfl, rfl⟩)), rfl, hlthmo⟩
    ·clear h5
     refine cp 0 (zaH hL hq2 hmo) ?_
     rintro o e' ⟨rfl, he⟩
     simp only [List.cons.injEq, and_true] at he
     subst he
     refine pq ?_
     exact ⟨rfl, rfl, hq2⟩
   ·have hcq2 := h0 m (p + 1) _ (by omega) hlt hz
    clear hz hr
    refine cp 0 (hcq2) ?_
    rintro o e' ⟨rfl, he, hq2⟩
    simp only [List.cons.injEq, and_true] at he
    subst he
    refine pq ?_
    exact ⟨rfl, rfl, hq2⟩
  rw [if_neg (by simp [htmOpen])] at hr
  refine kw (zcK hL hp htmOpen) ?_
  cases hr
  refine cp 0 (zdF G L p) ?_
  rintro o e' ⟨rfl, he⟩
  simp only [List.cons.injEq, and_true] at he
  subst he
  refine pq ?_
  exact ⟨rfl, rfl, hp⟩
set_option maxHeartbeats 32000000 in
theorem m_cases (hL : L.length ≤ 999999) (h0 : Lvl G L 41 0 n) (m p : Nat) (r : Ex.R) (hm : m ≤ n) (hp : p ≤ L.length) (hr : Ex.zeI (L.map (·.1)) m p = some r) :
  zaN Tryz.prog G 153 [.ptr 0 0] [prsE L p] (zh3 L r) := by
 refine zaM (zeY G) (by simp) (by simp [L_expr_parser_cases]) ?_
 show wpC _ _ 1 (panK 1 _) _ (retK 1 _ _) (mkX [(0, _)] [(0, _)])
 simp only [L_expr_parser_cases, zq0, zq1, zq2, zs, za, zl, zc, zE, prsE]
 have x0 := zx; have hpr : ∀ q f, (prsE L q).on f = true := fun _ _ => rfl
 refine wk ?_
 unfold Ex.zeI at hr
 cases ht : Ex.isT (L.map (·.1)) p 2 Ex.zb4
 rotate_left
 ·rw [if_pos ht] at hr
  have hlt : p < L.length := by simpa using Ex.isT_lt ht
  cases m with
  | zero => cases hr
  | succ m =>
  rw [Ex.zcv] at hr
  unfold Ex.need at hr
  rw [if_pos ht] at hr
  refine kw (zeC (a := 0) hL hp (by omega) ht) ?_
  refine kw (zaG hL ht) ?_
  refine ziK [0, 2, 3, 4] [0, 10, 12, 24, 43] (fun y => ∃ (m' p' : Nat) (acc : List Ex.E) (more : Bool), m' ≤ n ∧ p' ≤ L.length ∧ acc.length ≤ p' ∧ (more = false → acc ≠ []) ∧ (if more = true then Ex.ziR (L.map (·.1)) m' false acc p' = some r else Ex.zfH (L.map (·.1)) m' false acc p' = some r) ∧ y = zf7 L p' false more acc) atM lo ⟨m, p + 1, [], true, by omega, hlt, by simp, by simp, by rw [if_pos rfl]; exact hr, (by rw [zbi]; simp [zf7, zfp, prsE, envL, stL, ↓zaj, ↓zak, ↓zar, ↓zaq, ↓zap, ↓zas, ↓zaz, ↓zab, ↓zae, ↓zaa, ↓zac, ↓ev_t, ↓ev_c, *])⟩ ?_
  clear hr hlt ht
  clear hp hm p m
  rintro y ⟨m, p, acc, more, hm, hp, hacc, hne, hr, rfl⟩
  by_cases hnil : acc = []
  ·subst hnil
   simp only [zf7, Bool.false_eq_true, if_false, if_true, prsE, zfp]
   cases more
   ·exact absurd rfl (hne rfl)
   ·rw [if_pos rfl] at hr
    unfold Ex.ziR at hr
    have hbd : 2 * 129 ≤ 140737488355328 := by omega
    refine wk ?_
    rcases Ex.then1_some hr with ⟨a, q3, hz, h5⟩ | ⟨q3, hz, rfl⟩
    ·have hcq3 := h0 m (p) _ (by omega) hp hz
     have hfwq3 := Ex.za6 (by simp; omega) hz
     simp only [List.length_map] at hfwq3
     clear hz hr
     refine cp 0 (hcq3) ?_
     rintro o e' ⟨rfl, he, hq3⟩
     simp only [List.cons.injEq, and_true] at he
     subst he
     show wpR _ _ _ _ _ (X.put _ _ _ [(0, prsE L _)])
     refine wk ?_
     rcases Ex.need_some h5 with ⟨hmo, h5m⟩ | ⟨hmo, rfl⟩
     ·have hlthmo := (by simpa using Ex.isT_lt hmo : _ < L.length)
      clear h5
      refine kw (zaG hL hmo) ?_
      rcases Ex.then1_some h5m with ⟨b, q4, hz4, h7⟩ | ⟨q4, hz4, rfl⟩
      ·have hcq4 := h0 m (q3 + 1) _ (by omega) hlthmo hz4
       have hfwq4 := Ex.za6 (by simp; omega) hz4
       simp only [List.length_map] at hfwq4
       clear hz4 h5m
       refine zah ?_ ?_
       all_goals
        refine wk ?_
        refine cp 0 (hcq4) ?_
        rintro o e' ⟨rfl, he, hq4⟩
        simp only [List.cons.injEq, and_true] at he
        subst he
        show wpR _ _ _ _ _ (X.put _ _ _ [(0, prsE L _)])
        refine wk ?_
        cases hw : Ex.isT (L.map (·.1)) q4 2 Ex.zb4
        ·rw [if_neg (by simp [hw])] at h7
         refine kw (zaP hL hq4 hw) ?_
         refine ⟨lo, ⟨m, q4, [] ++ [a, b], false, by omega, hq4, by simp; omega, by simp, by rw [if_neg (by simp)]; exact h7, (by rw [zbi]; simp [zf7, zfp, prsE, envL, stL, ↓zaj, ↓zak, ↓zar, ↓zaq, ↓zap, ↓zas, ↓zaz, ↓zab, ↓zae, ↓zaa, ↓zac, ↓ev_t, ↓ev_c, *])⟩, ?_⟩
         rw [zbi]
         simp [envL, stL, ↓zaj, ↓zak, ↓zar, ↓zaq, ↓zap, ↓zas, ↓zaz, ↓zab, ↓zae, ↓zaa, ↓zac, ↓ev_t, ↓ev_c, atM, prsE]
         omega
        ·rw [if_pos hw] at h7
         cases m with
         | zero => cases h7
         | succ m =>
         rw [Ex.zcv] at h7
         have hlt4 : q4 < L.length := by simpa using Ex.isT_lt hw
         unfold Ex.need at h7
         rw [if_pos hw] at h7
         refine kw (za1 hL hw) ?_
         refine ⟨lo, ⟨m, q4 + 1, [] ++ [a, b], true, by omega, hlt4, by simp; omega, by simp, by rw [if_pos rfl]; exact h7, (by rw [zbi]; simp [zf7, zfp, prsE, envL, stL, ↓zaj, ↓zak, ↓zar, ↓zaq, ↓zap, ↓zas, ↓zaz, ↓zab, ↓zae, ↓zaa, ↓zac, ↓ev_t, ↓ev_c, *])⟩, ?_⟩
         rw [zbi]
         simp [envL, stL, ↓zaj, ↓zak, ↓zar, ↓zaq, ↓zap, ↓zas, ↓zaz, ↓zab, ↓zae, ↓zaa, ↓zac, ↓ev_t, ↓ev_c, atM, prsE]
         omega
      ·have hcq4 := h0 m (q3 + 1) _ (by omega) hlthmo hz4
       clear hz4 h5m
       refine zah ?_ ?_
       all_goals
        refine wk ?_
        refine cp 0 (hcq4) ?_
        rintro o e' ⟨rfl, he, hq4⟩
        simp only [List.cons.injEq, and_true] at he
        subst he
        refine pq ?_
        exact ⟨rfl, rfl, hq4⟩
     ·clear h5
      refine cp 0 (zaH hL hq3 hmo) ?_
      rintro o e' ⟨rfl, he⟩
      simp only [List.cons.injEq, and_true] at he
      subst he
      refine pq ?_
      exact ⟨rfl, rfl, hq3⟩
    ·have hcq3 := h0 m (p) _ (by omega) hp hz
     clear hz hr
     refine cp 0 (hcq3) ?_
     rintro o e' ⟨rfl, he, hq3⟩
     simp only [List.cons.injEq, and_true] at he
     subst he
     refine pq ?_
     exact ⟨rfl, rfl, hq3⟩
  ·clear hne
   simp only [zf7, Bool.false_eq_true, if_false, if_neg hnil, prsE, zfp]
   clear hnil
   cases more
   ·rw [if_neg (by simp)] at hr
    have hx : ((acc.map fun e => Vm.V.agg (expC e)).take acc.length) = acc.map fun e => .agg (expC e) := List.take_of_length_le (by simp)
    have hx2 : ∀ x, ((acc.map fun e => Vm.V.agg (expC e)) ++ [x]).take (acc.length + 1) = (acc.map fun e => .agg (expC e)) ++ [x] := fun x => List.take_of_length_le (by simp)
    have hbd : (acc.length + 1) * 129 ≤ 140737488355328 := by omega
    unfold Ex.zfH at hr
    cases he : Ex.isT (L.map (·.1)) p 2 Ex.zcA
    ·rw [if_neg (by simp [he])] at hr
     refine wk ?_
     refine kw (zaP hL hp he) ?_
     rcases Ex.need_some hr with ⟨hmo, hrm⟩ | ⟨hmo, rfl⟩
     ·have hlthmo := (by simpa using Ex.isT_lt hmo : _ < L.length)
      clear hr
      refine kw (zaG hL hmo) ?_
      cases hrm
      refine rt ?_
      exact ⟨(by first | rfl | (simp [expC, Ex.eUn, Ex.eBin, Ex.eIs, Ex.eIn, Ex.eBtw, Ex.zaY, Ex.eVal, Ex.eCol, Ex.eCase, Ex.eFn, Ex.eAgg, Ex.za0, Ex.v0]; first | done | rfl | exact ⟨rfl, rfl⟩)), rfl, hlthmo⟩
     ·clear hr
      refine cp 0 (zaH hL hp hmo) ?_
      rintro o e' ⟨rfl, he⟩
      simp only [List.cons.injEq, and_true] at he
      subst he
      refine pq ?_
      exact ⟨rfl, rfl, hp⟩
    ·rw [if_pos he] at hr
     have hlt : p < L.length := by simpa using Ex.isT_lt he
     refine wk ?_
     refine kw (za1 hL he) ?_
     rcases Ex.then1_some hr with ⟨c, q2, hz, h5⟩ | ⟨q2, hz, rfl⟩
     ·have hcq2 := h0 m (p + 1) _ (by omega) hlt hz
      have hfwq2 := Ex.za6 (by simp; omega) hz
      simp only [List.length_map] at hfwq2
      clear hz hr
      refine zah ?_ ?_
      all_goals
       refine wk ?_
       refine cp 0 (hcq2) ?_
       rintro o e' ⟨rfl, he, hq2⟩
       simp only [List.cons.injEq, and_true] at he
       subst he
       show wpR _ _ _ _ _ (X.put _ _ _ [(0, prsE L _)])
       refine wk ?_
       rcases Ex.need_some h5 with ⟨hmo, h5m⟩ | ⟨hmo, rfl⟩
       ·have hlthmo := (by simpa using Ex.isT_lt hmo : _ < L.length)
        clear h5
        refine kw (zaG hL hmo) ?_
        cases h5m
        refine rt ?_
        exact ⟨(by first | rfl | (simp [expC, Ex.eUn, Ex.eBin, Ex.eIs, Ex.eIn, Ex.eBtw, Ex.zaY, Ex.eVal, Ex.eCol, Ex.eCase, Ex.eFn, Ex.eAgg, Ex.za0, Ex.v0]; first | done | rfl | exact ⟨rfl, rfl⟩)), rfl, hlthmo⟩
       ·clear h5
        refine cp 0 (zaH hL hq2 hmo) ?_
        rintro o e' ⟨rfl, he⟩
        simp only [List.cons.injEq, and_true] at he
        subst he
        refine pq ?_
        exact ⟨rfl, rfl, hq2⟩
     ·have hcq2 := h0 m (p + 1) _ (by omega) hlt hz
      clear hz hr
      refine zah ?_ ?_
      all_goals
       refine wk ?_
       refine cp 0 (hcq2) ?_
       rintro o e' ⟨rfl, he, hq2⟩
       simp only [List.cons.injEq, and_true] at he
       subst he
       refine pq ?_
       exact ⟨rfl, rfl, hq2⟩
   ·rw [if_pos rfl] at hr
    unfold Ex.ziR at hr
    have hbd : (acc.length + 2) * 129 ≤ 140737488355328 := by omega
    refine wk ?_
    rcases Ex.then1_some hr with ⟨a, q3, hz, h5⟩ | ⟨q3, hz, rfl⟩
    ·have hcq3 := h0 m (p) _ (by omega) hp hz
     have hfwq3 := Ex.za6 (by simp; omega) hz
     simp only [List.length_map] at hfwq3
     clear hz hr
     refine cp 0 (hcq3) ?_
     rintro o e' ⟨rfl, he, hq3⟩
     simp only [List.cons.injEq, and_true] at he
     subst he
     show wpR _ _ _ _ _ (X.put _ _ _ [(0, prsE L _)])
     refine wk ?_
     rcases Ex.need_some h5 with ⟨hmo, h5m⟩ | ⟨hmo, rfl⟩
     ·have hlthmo := (by simpa using Ex.isT_lt hmo : _ < L.length)
      clear h5
      refine kw (zaG hL hmo) ?_
      rcases Ex.then1_some h5m with ⟨b, q4, hz4, h7⟩ | ⟨q4, hz4, rfl⟩
      ·have hcq4 := h0 m (q3 + 1) _ (by omega) hlthmo hz4
       have hfwq4 := Ex.za6 (by simp; omega) hz4
       simp only [List.length_map] at hfwq4
       clear hz4 h5m
       refine zah ?_ ?_
       all_goals
        refine wk ?_
        refine cp 0 (hcq4) ?_
        rintro o e' ⟨rfl, he, hq4⟩
        simp only [List.cons.injEq, and_true] at he
        subst he
        show wpR _ _ _ _ _ (X.put _ _ _ [(0, prsE L _)])
        refine wk ?_
        cases hw : Ex.isT (L.map (·.1)) q4 2 Ex.zb4
        ·rw [if_neg (by simp [hw])] at h7
         refine kw (zaP hL hq4 hw) ?_
         refine ⟨lo, ⟨m, q4, acc ++ [a, b], false, by omega, hq4, by simp; omega, by simp, by rw [if_neg (by simp)]; exact h7, (by rw [zbi]; simp [zf7, zfp, prsE, envL, stL, ↓zaj, ↓zak, ↓zar, ↓zaq, ↓zap, ↓zas, ↓zaz, ↓zab, ↓zae, ↓zaa, ↓zac, ↓ev_t, ↓ev_c, *])⟩, ?_⟩
         rw [zbi]
         simp [envL, stL, ↓zaj, ↓zak, ↓zar, ↓zaq, ↓zap, ↓zas, ↓zaz, ↓zab, ↓zae, ↓zaa, ↓zac, ↓ev_t, ↓ev_c, atM, prsE]
         omega
        ·rw [if_pos hw] at h7
         cases m with
         | zero => cases h7
         | succ m =>
         rw [Ex.zcv] at h7
         have hlt4 : q4 < L.length := by simpa using Ex.isT_lt hw
         unfold Ex.need at h7
         rw [if_pos hw] at h7
         refine kw (za1 hL hw) ?_
         refine ⟨lo, ⟨m, q4 + 1, acc ++ [a, b], true, by omega, hlt4, by simp; omega, by simp, by rw [if_pos rfl]; exact h7, (by rw [zbi]; simp [zf7, zfp, prsE, envL, stL, ↓zaj, ↓zak, ↓zar, ↓zaq, ↓zap, ↓zas, ↓zaz, ↓zab, ↓zae, ↓zaa, ↓zac, ↓ev_t, ↓ev_c, *])⟩, ?_⟩
         rw [zbi]
         simp [envL, stL, ↓zaj, ↓zak, ↓zar, ↓zaq, ↓zap, ↓zas, ↓zaz, ↓zab, ↓zae, ↓zaa, ↓zac, ↓ev_t, ↓ev_c, atM, prsE]
         omega
      ·have hcq4 := h0 m (q3 + 1) _ (by omega) hlthmo hz4
       clear hz4 h5m
       refine zah ?_ ?_
       all_goals
        refine wk ?_
        refine cp 0 (hcq4) ?_
        rintro o e' ⟨rfl, he, hq4⟩
        simp only [List.cons.injEq, and_true] at he
        subst he
        refine pq ?_
        exact ⟨rfl, rfl, hq4⟩
     ·clear h5
      refine cp 0 (zaH hL hq3 hmo) ?_
      rintro o e' ⟨rfl, he⟩
      simp only [List.cons.injEq, and_true] at he
      subst he
      refine pq ?_
      exact ⟨rfl, rfl, hq3⟩
    ·have hcq3 := h0 m (p) _ (by omega) hp hz
     clear hz hr
     refine cp 0 (hcq3) ?_
     rintro o e' ⟨rfl, he, hq3⟩
     simp only [List.cons.injEq, and_true] at he
     subst he
     refine pq ?_
     exact ⟨rfl, rfl, hq3⟩
 ·rw [if_neg (by simp [ht])] at hr
  refine kw (zeC (a := 0) hL hp (by omega) ht) ?_
  rcases Ex.then1_some hr with ⟨e, q, hz0, h50⟩ | ⟨q, hz0, rfl⟩
  ·have hcq := h0 m (p) _ (by omega) hp hz0
   have hfwq := Ex.za6 (by simp; omega) hz0
   simp only [List.length_map] at hfwq
   clear hz0 hr
   refine zah ?_ ?_
   all_goals
    refine wk ?_
    refine cp 0 (hcq) ?_
    rintro o e' ⟨rfl, he, hq⟩
    simp only [List.cons.injEq, and_true] at he
    subst he
    show wpR _ _ _ _ _ (X.put _ _ _ [(0, prsE L _)])
    refine wk ?_
    cases m with
    | zero => cases h50
    | succ m =>
    rw [Ex.zcv] at h50
    rcases Ex.need_some h50 with ⟨ho1, hr2⟩ | ⟨ho1, rfl⟩
    ·have hlt1 : q < L.length := by simpa using Ex.isT_lt ho1
     refine kw (zaG hL ho1) ?_
     have he5 := h50
     refine ziK [0, 2, 3, 4] [0, 10, 12, 24, 43] (fun y => ∃ (m' p' : Nat) (acc : List Ex.E) (more : Bool), m' ≤ n ∧ p' ≤ L.length ∧ acc.length ≤ p' ∧ (more = false → acc ≠ []) ∧ (if more = true then Ex.ziR (L.map (·.1)) m' true acc p' = some r else Ex.zfH (L.map (·.1)) m' true acc p' = some r) ∧ y = zf7 L p' true more acc) atM lo ⟨m, q + 1, [e], true, by omega, hlt1, (by simp <;> omega), by simp, by rw [if_pos rfl]; exact hr2, (by rw [zbi]; simp [zf7, zfp, prsE, envL, stL, ↓zaj, ↓zak, ↓zar, ↓zaq, ↓zap, ↓zas, ↓zaz, ↓zab, ↓zae, ↓zaa, ↓zac, ↓ev_t, ↓ev_c, *])⟩ ?_
     clear hr2 hfwq he5 h50 hcq ht
     clear hp hm p m
     rintro y ⟨m, p, acc, more, hm, hp, hacc, hne, hr, rfl⟩
     simp only [zf7, if_true, prsE, zfp]
     cases more
     ·rw [if_neg (by simp)] at hr
      have hx : ((acc.map fun e => Vm.V.agg (expC e)).take acc.length) = acc.map fun e => .agg (expC e) := List.take_of_length_le (by simp)
      have hx2 : ∀ x, ((acc.map fun e => Vm.V.agg (expC e)) ++ [x]).take (acc.length + 1) = (acc.map fun e => .agg (expC e)) ++ [x] := fun x => List.take_of_length_le (by simp)
      have hbd : (acc.length + 1) * 129 ≤ 140737488355328 := by omega
      unfold Ex.zfH at hr
      cases he : Ex.isT (L.map (·.1)) p 2 Ex.zcA
      ·rw [if_neg (by simp [he])] at hr
       refine wk ?_
       refine kw (zaP hL hp he) ?_
       rcases Ex.need_some hr with ⟨hmo, hrm⟩ | ⟨hmo, rfl⟩
       ·have hlthmo := (by simpa using Ex.isT_lt hmo : _ < L.length)
        clear hr
        refine kw (zaG hL hmo) ?_
        cases hrm
        refine rt ?_
        exact ⟨(by first | rfl | (simp [expC, Ex.eUn, Ex.eBin, Ex.eIs, Ex.eIn, Ex.eBtw, Ex.zaY, Ex.eVal, Ex.eCol, Ex.eCase, Ex.eFn, Ex.eAgg, Ex.za0, Ex.v0]; first | done | rfl | exact ⟨rfl, rfl⟩)), rfl, hlthmo⟩
       ·clear hr
        refine cp 0 (zaH hL hp hmo) ?_
        rintro o e' ⟨rfl, he⟩
        simp only [List.cons.injEq, and_true] at he
        subst he
        refine pq ?_
        exact ⟨rfl, rfl, hp⟩
      ·rw [if_pos he] at hr
       have hlt : p < L.length := by simpa using Ex.isT_lt he
       refine wk ?_
       refine kw (za1 hL he) ?_
       rcases Ex.then1_some hr with ⟨c, q2, hz, h5⟩ | ⟨q2, hz, rfl⟩
       ·have hcq2 := h0 m (p + 1) _ (by omega) hlt hz
        have hfwq2 := Ex.za6 (by simp; omega) hz
        simp only [List.length_map] at hfwq2
        clear hz hr
        refine zah ?_ ?_
        all_goals
         refine wk ?_
         refine cp 0 (hcq2) ?_
         rintro o e' ⟨rfl, he, hq2⟩
         simp only [List.cons.injEq, and_true] at he
         subst he
         show wpR _ _ _ _ _ (X.put _ _ _ [(0, prsE L _)])
         refine wk ?_
         rcases Ex.need_some h5 with ⟨hmo, h5m⟩ | ⟨hmo, rfl⟩
         ·have hlthmo := (by simpa using Ex.isT_lt hmo : _ < L.length)
          clear h5
          refine kw (zaG hL hmo) ?_
          cases h5m
          refine rt ?_
          exact ⟨(by first | rfl | (simp [expC, Ex.eUn, Ex.eBin, Ex.eIs, Ex.eIn, Ex.eBtw, Ex.zaY, Ex.eVal, Ex.eCol, Ex.eCase, Ex.eFn, Ex.eAgg, Ex.za0, Ex.v0]; first | done | rfl | exact ⟨rfl, rfl⟩)), rfl, hlthmo⟩
         ·clear h5
          refine cp 0 (zaH hL hq2 hmo) ?_
          rintro o e' ⟨rfl, he⟩
          simp only [List.cons.injEq, and_true] at he
          subst he
          refine pq ?_
          exact ⟨rfl, rfl, hq2⟩
       ·have hcq2 := h0 m (p + 1) _ (by omega) hlt hz
        clear hz hr
        refine zah ?_ ?_
        all_goals
         refine wk ?_
         refine cp 0 (hcq2) ?_
         rintro o e' ⟨rfl, he, hq2⟩
         simp only [List.cons.injEq, and_true] at he
         subst he
         refine pq ?_
         exact ⟨rfl, rfl, hq2⟩
     ·rw [if_pos rfl] at hr
      unfold Ex.ziR at hr
      have hbd : (acc.length + 2) * 129 ≤ 140737488355328 := by omega
      refine wk ?_
      rcases Ex.then1_some hr with ⟨a, q3, hz, h5⟩ | ⟨q3, hz, rfl⟩
      ·have hcq3 := h0 m (p) _ (by omega) hp hz
       have hfwq3 := Ex.za6 (by simp; omega) hz
       simp only [List.length_map] at hfwq3
       clear hz hr
       refine cp 0 (hcq3) ?_
       rintro o e' ⟨rfl, he, hq3⟩
       simp only [List.cons.injEq, and_true] at he
       subst he
       show wpR _ _ _ _ _ (X.put _ _ _ [(0, prsE L _)])
       refine wk ?_
       rcases Ex.need_some h5 with ⟨hmo, h5m⟩ | ⟨hmo, rfl⟩
       ·have hlthmo := (by simpa using Ex.isT_lt hmo : _ < L.length)
        clear h5
        refine kw (zaG hL hmo) ?_
        rcases Ex.then1_some h5m with ⟨b, q4, hz4, h7⟩ | ⟨q4, hz4, rfl⟩
        ·have hcq4 := h0 m (q3 + 1) _ (by omega) hlthmo hz4
         have hfwq4 := Ex.za6 (by simp; omega) hz4
         simp only [List.length_map] at hfwq4
         clear hz4 h5m
         refine zah ?_ ?_
         all_goals
          refine wk ?_
          refine cp 0 (hcq4) ?_
          rintro o e' ⟨rfl, he, hq4⟩
          simp only [List.cons.injEq, and_true] at he
          subst he
          show wpR _ _ _ _ _ (X.put _ _ _ [(0, prsE L _)])
          refine wk ?_
          cases hw : Ex.isT (L.map (·.1)) q4 2 Ex.zb4
          ·rw [if_neg (by simp [hw])] at h7
           refine kw (zaP hL hq4 hw) ?_
           refine ⟨lo, ⟨m, q4, acc ++ [a, b], false, by omega, hq4, by simp; omega, by simp, by rw [if_neg (by simp)]; exact h7, (by rw [zbi]; simp [zf7, zfp, prsE, envL, stL, ↓zaj, ↓zak, ↓zar, ↓zaq, ↓zap, ↓zas, ↓zaz, ↓zab, ↓zae, ↓zaa, ↓zac, ↓ev_t, ↓ev_c, *])⟩, ?_⟩
           rw [zbi]
           simp [envL, stL, ↓zaj, ↓zak, ↓zar, ↓zaq, ↓zap, ↓zas, ↓zaz, ↓zab, ↓zae, ↓zaa, ↓zac, ↓ev_t, ↓ev_c, atM, prsE]
           omega
          ·rw [if_pos hw] at h7
           cases m with
           | zero => cases h7
           | succ m =>
           rw [Ex.zcv] at h7
           have hlt4 : q4 < L.length := by simpa using Ex.isT_lt hw
           unfold Ex.need at h7
           rw [if_pos hw] at h7
           refine kw (za1 hL hw) ?_
           refine ⟨lo, ⟨m, q4 + 1, acc ++ [a, b], true, by omega, hlt4, by simp; omega, by simp, by rw [if_pos rfl]; exact h7, (by rw [zbi]; simp [zf7, zfp, prsE, envL, stL, ↓zaj, ↓zak, ↓zar, ↓zaq, ↓zap, ↓zas, ↓zaz, ↓zab, ↓zae, ↓zaa, ↓zac, ↓ev_t, ↓ev_c, *])⟩, ?_⟩
           rw [zbi]
           simp [envL, stL, ↓zaj, ↓zak, ↓zar, ↓zaq, ↓zap, ↓zas, ↓zaz, ↓zab, ↓zae, ↓zaa, ↓zac, ↓ev_t, ↓ev_c, atM, prsE]
           omega
        ·have hcq4 := h0 m (q3 + 1) _ (by omega) hlthmo hz4
         clear hz4 h5m
         refine zah ?_ ?_
         all_goals
          refine wk ?_
          refine cp 0 (hcq4) ?_
          rintro o e' ⟨rfl, he, hq4⟩
          simp only [List.cons.injEq, and_true] at he
          subst he
          refine pq ?_
          exact ⟨rfl, rfl, hq4⟩
       ·clear h5
        refine cp 0 (zaH hL hq3 hmo) ?_
        rintro o e' ⟨rfl, he⟩
        simp only [List.cons.injEq, and_true] at he
        subst he
        refine pq ?_
        exact ⟨rfl, rfl, hq3⟩
      ·have hcq3 := h0 m (p) _ (by omega) hp hz
       clear hz hr
       refine cp 0 (hcq3) ?_
       rintro o e' ⟨rfl, he, hq3⟩
       simp only [List.cons.injEq, and_true] at he
       subst he
       refine pq ?_
       exact ⟨rfl, rfl, hq3⟩
    ·skip
     refine cp 0 (zaH hL hq ho1) ?_
     rintro o e' ⟨rfl, he⟩
     simp only [List.cons.injEq, and_true] at he
     subst he
     refine pq ?_
     exact ⟨rfl, rfl, hq⟩
  ·have hcq := h0 m (p) _ (by omega) hp hz0
   clear hz0 hr
   refine zah ?_ ?_
   all_goals
    refine wk ?_
    refine cp 0 (hcq) ?_
    rintro o e' ⟨rfl, he, hq⟩
    simp only [List.cons.injEq, and_true] at he
    subst he
    refine pq ?_
    exact ⟨rfl, rfl, hq⟩
end
end Go.Proofs.YtakegkongmnekaaGreatDoor
