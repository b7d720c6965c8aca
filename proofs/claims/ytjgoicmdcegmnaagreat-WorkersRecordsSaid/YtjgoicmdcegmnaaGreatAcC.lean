/- Abstract code of functions: fixed calls. -/
import Derived.Test.YtjgoicmdcegmnaaGreatBmD
import Derived.Test.YtjgoicmdcegmnaaGreatProg
import Derived.KernelRfl

set_option linter.unusedVariables false
set_option linter.unusedSimpArgs false

/- Abstract code of functions (printed). -/
namespace Go.Bm
open Go Go.Proofs

def ac9 : ACode := .seq
  (.reg false [.mk (some 0) none (.alloc [.sl .full 3 [], .sl .full 3 [], .sl .full 4 [], .sl .full 1 [], .int .i64 0, .int .i64 0, .int .i64 0]) []]) (.seq
  (.reg false [.mk (some 1) none (.build [.int .i64 0, .int .i64 0, .int .i64 0] [(0, 1, .k (.int .i64 0)), (1, 1, .k (.int .i64 20)), (2, 1, .k (.int .i64 1))]) [], .mk (some 2) none (.build [.int .i64 0, .int .i64 0, .int .i64 0] [(0, 1, .k (.int .i64 (-5))), (1, 1, .k (.int .i64 5))]) [], .mk (some 3) none (.bslice true 3 [.int .i64 0, .int .i64 0, .int .i64 0] 2 [(0, .t 1), (1, .t 2)]) [], .mk (some 4) none (.build [.int .i64 0, .int .i64 0, .int .i64 0] [(0, 1, .k (.int .i64 0)), (1, 1, .k (.int .i64 9)), (2, 1, .k (.int .i64 1))]) [], .mk (some 5) none (.build [.int .i64 0, .int .i64 0, .int .i64 0] [(0, 1, .k (.int .i64 0)), (1, 1, .k (.int .i64 100)), (2, 1, .k (.int .i64 2))]) [], .mk (some 6) none (.bslice true 3 [.int .i64 0, .int .i64 0, .int .i64 0] 2 [(0, .t 4), (1, .t 5)]) [], .mk (some 7) none (.build [.int .i64 0, .int .i64 0, .int .i64 0] [(0, 1, .k (.int .i64 0)), (1, 1, .k (.int .i64 15)), (2, 1, .k (.int .i64 1))]) [], .mk (some 8) none (.build [.int .i64 0, .int .i64 0, .int .i64 0, .int .i64 0] [(0, 1, .k (.int .i64 2)), (1, 3, .t 7)]) [], .mk (some 9) none (.bslice true 4 [.int .i64 0, .int .i64 0, .int .i64 0, .int .i64 0] 1 [(0, .t 8)]) [], .mk (some 10) none (.bslice false 1 [.int .i64 0] 3 [(0, .k (.int .i64 0)), (1, .k (.int .i64 1)), (2, .k (.int .i64 3))]) [], .mk (some 11) none (.build [.sl .full 3 [], .sl .full 3 [], .sl .full 4 [], .sl .full 1 [], .int .i64 0, .int .i64 0, .int .i64 0] [(0, 1, .t 3), (1, 1, .t 6), (2, 1, .t 9), (3, 1, .t 10), (4, 1, .k (.int .i64 3)), (5, 1, .k (.int .i64 3)), (6, 1, .k (.int .i64 2))]) [], .mk none none (.store 7 (.t 0) (.t 11)) []]) .ret)

theorem fn9 : FnIs Tryz.prog 9 12 ac9 [.cell 0 54] := ⟨⟨Tryz.f9, _, Tryz.func9, rfl, Tryz.ntmps9, by kernel_rfl, by rw [Tryz.results9], by decide⟩⟩

def ac10 : ACode := .seq
  (.reg false [.mk (some 3) none (.fbox 10 (.t 0)) [], .mk (some 4) none (.fbox 2 (.t 1)) [], .mk (some 6) none (.alloc [.sl .full 16 [], .sl .full 3 [], .int .i64 0]) []]) (.seq
  (.reg false [.mk (some 10) none (.load (some 10) (.t 3)) [], .mk (some 11) none (.load (some 2) (.t 4)) [], .mk (some 12) none (.mv (.t 2)) [], .mk (some 13) none (.call (.k (.fn 20 [] [])) [.t 10, .t 11, .k (.sl .full 11 []), .t 12]) [], .mk (some 9) none (.mv (.t 13)) [], .mk (some 14) none (.extr (.t 9) 0) [], .mk (some 15) none (.extr (.t 9) 1) [], .mk (some 7) none (.alloc [.sl .full 16 [], .sl .full 3 []]) [], .mk none none (.store 2 (.t 7) (.t 14)) [], .mk (some 8) none (.mv (.t 15)) []]) (.seq
  (.reg false [.mk (some 16) none (.load (some 2) (.t 7)) [], .mk (some 17) none (.mv (.t 8)) [], .mk (some 18) none (.build [.sl .full 16 [], .sl .full 3 [], .int .i64 0] [(0, 2, .t 16), (2, 1, .t 17)]) [], .mk none none (.store 3 (.t 6) (.t 18)) []]) .ret))

theorem fn10 : FnIs Tryz.prog 10 19 ac10 [.cell 6 65] := ⟨⟨Tryz.f10, _, Tryz.func10, rfl, Tryz.ntmps10, by kernel_rfl, by rw [Tryz.results10], by decide⟩⟩

def ac11 : ACode := .seq
  (.reg false [.mk (some 6) none (.fbox 10 (.t 0)) [], .mk (some 7) none (.fbox 2 (.t 1)) [], .mk (some 12) none (.mv (.k (.sl .full 1 []))) []]) (.seq
  (.reg false [.mk (some 20) none (.mv (.t 3)) [], .mk (some 21) none (.call (.k (.fn 18 [] [])) [.t 20]) [], .mk (some 19) none (.mv (.t 21)) [], .mk (some 22) none (.extr (.t 19) 0) [], .mk (some 23) none (.extr (.t 19) 1) [], .mk (some 13) none (.mv (.t 22)) [], .mk (some 14) none (.mv (.t 23)) []]) (.seq
  (.reg false [.mk (some 24) none (.mv (.t 14)) [], .mk (some 25) none (.call (.k (.fn 21 [] [])) [.t 24]) [], .mk (some 15) none (.mv (.t 25)) []]) (.seq (.seq
  (.reg false [.mk (some 26) none (.load (some 10) (.t 6)) [], .mk (some 27) none (.load (some 2) (.t 7)) [], .mk (some 28) none (.mv (.t 2)) [], .mk (some 29) none (.call (.k (.fn 22 [] [])) [.t 26, .t 27, .t 28]) [], .mk (some 30) none (.bin .neq (.t 29) (.k (.int .i64 0))) []])
  (.cond (.t 30) (.seq
  (.reg false [.mk (some 31) none (.mv (.t 15)) [], .mk (some 12) none (.mv (.t 31)) []]) .ret) .skip)) (.seq
  (.block 0
  (.loop (.seq (.seq
  (.reg false [.mk (some 32) none (.mv (.t 5)) [], .mk (some 33) none (.bin .gtr (.t 32) (.k (.int .i64 0))) []])
  (.cond (.t 33) .skip (.exit 0)))
  (.block 1 (.seq
  (.reg false [.mk (some 35) none (.load (some 10) (.t 6)) [], .mk (some 36) none (.load (some 2) (.t 7)) [], .mk (some 37) none (.mv (.t 2)) [], .mk (some 38) none (.mv (.t 13)) [], .mk (some 39) none (.call (.k (.fn 24 [] [])) [.t 35, .t 36, .t 37, .t 38]) [], .mk (some 40) none (.mv (.t 4)) [], .mk (some 41) none (.call (.k (.fn 23 [] [])) [.t 39, .t 40]) [], .mk (some 34) none (.mv (.t 41)) [], .mk (some 42) none (.extr (.t 34) 0) [], .mk (some 43) none (.extr (.t 34) 1) [], .mk (some 16) none (.alloc [.int .i64 0, .sl .full 1 [], .sl .full 1 [], .sl .full 11 [], .sl .full 10 [], .int .i64 0, .int .i64 0, .sl .full 8 [], .int .i64 0, .int .i64 0, .int .i64 0, .int .i64 0, .int .i64 0, .int .i64 0, .int .i64 0, .int .i64 0, .int .i64 0, .sl .full 3 [], .int .i64 0, .sl .full 3 [], .sl .full 3 [], .sl .full 1 []]) [], .mk none none (.store 22 (.t 16) (.t 42)) [], .mk (some 17) none (.mv (.t 43)) []]) (.seq (.seq
  (.reg false [.mk (some 44) none (.mv (.t 17)) [], .mk (some 45) none (.un .not (.t 44)) []])
  (.cond (.t 45) (.exit 0) .skip)) (.seq
  (.reg false [.mk (some 46) none (.load (some 22) (.t 16)) [], .mk (some 47) none (.call (.k (.fn 6 [] [])) [.t 46]) [], .mk (some 18) none (.mv (.t 47)) []]) (.seq
  (.reg false [.mk (some 48) none (.mv (.t 15)) [], .mk (some 49) none (.mv (.t 18)) [], .mk (some 50) none (.mv (.t 18)) [], .mk (some 51) none (.len (.t 50)) [], .mk (some 52) none (.mv (.t 5)) [], .mk (some 53) none (.mnx false (.t 51) (.t 52)) [], .mk (some 54) none (.slice 1 (.t 49) none (some (.t 53)) none) [], .mk (some 55) none (.append 1 1 (.t 48) (.t 54)) [], .mk (some 15) none (.mv (.t 55)) []]) (.seq
  (.reg false [.mk (some 56) none (.mv (.t 5)) [], .mk (some 57) none (.mv (.t 18)) [], .mk (some 58) none (.len (.t 57)) [], .mk (some 59) none (.bin .sub (.t 56) (.t 58)) [], .mk (some 5) none (.mv (.t 59)) []])
  (.reg false [.mk (some 60) none (.mv (.t 13)) [], .mk (some 61) none (.load (some 22) (.t 16)) [], .mk (some 62) none (.bslice true 22 [.int .i64 0, .sl .full 1 [], .sl .full 1 [], .sl .full 11 [], .sl .full 10 [], .int .i64 0, .int .i64 0, .sl .full 8 [], .int .i64 0, .int .i64 0, .int .i64 0, .int .i64 0, .int .i64 0, .int .i64 0, .int .i64 0, .int .i64 0, .int .i64 0, .sl .full 3 [], .int .i64 0, .sl .full 3 [], .sl .full 3 [], .sl .full 1 []] 1 [(0, .t 61)]) [], .mk (some 63) none (.append 22 320 (.t 60) (.t 62)) [], .mk (some 13) none (.mv (.t 63)) []])))))))))) (.seq
  (.reg false [.mk (some 64) none (.mv (.t 15)) [], .mk (some 12) none (.mv (.t 64)) []]) .ret)))))

theorem fn11 : FnIs Tryz.prog 11 65 ac11 [.tmp 12] := ⟨⟨Tryz.f11, _, Tryz.func11, rfl, Tryz.ntmps11, by kernel_rfl, by rw [Tryz.results11], by decide⟩⟩

def ac20 : ACode := .seq
  (.reg false [.mk (some 4) none (.fbox 10 (.t 0)) [], .mk (some 5) none (.fbox 2 (.t 1)) [], .mk (some 8) none (.alloc [.sl .full 16 [], .sl .full 3 []]) [], .mk (some 9) none (.mv (.k (.int .i64 0))) []]) (.seq (.seq
  (.reg false [.mk (some 13) none (.load (some 10) (.t 4)) [], .mk (some 14) none (.load (some 2) (.t 5)) [], .mk (some 15) none (.mv (.t 2)) [], .mk (some 16) none (.call (.k (.fn 22 [] [])) [.t 13, .t 14, .t 15]) [], .mk (some 17) none (.bin .neq (.t 16) (.k (.int .i64 0))) []])
  (.cond (.t 17) (.seq
  (.reg false [.mk (some 18) none (.build [.sl .full 16 [], .sl .full 3 []] []) [], .mk none none (.store 2 (.t 8) (.t 18)) [], .mk (some 9) none (.mv (.k (.int .i64 1))) []]) .ret) .skip)) (.seq
  (.reg false [.mk (some 20) none (.mv (.t 3)) [], .mk (some 21) none (.call (.k (.fn 18 [] [])) [.t 20]) [], .mk (some 19) none (.mv (.t 21)) [], .mk (some 22) none (.extr (.t 19) 0) [], .mk (some 23) none (.extr (.t 19) 1) [], .mk (some 10) none (.mv (.t 22)) [], .mk (some 11) none (.mv (.t 23)) []]) (.gseq
  (.reg false [.mk (some 24) none (.load (some 10) (.t 4)) [], .mk (some 25) none (.load (some 2) (.t 5)) [], .mk (some 26) none (.mv (.t 2)) [], .mk (some 27) none (.mv (.t 10)) [], .mk (some 28) none (.call (.k (.fn 24 [] [])) [.t 24, .t 25, .t 26, .t 27]) [], .mk (some 12) none (.mv (.t 28)) []]) (.seq (.seq
  (.reg true [.mk (some 29) none (.mv (.t 12)) [], .mk (some 30) none (.nilck (.t 29)) [0], .mk (some 31) none (.faddr (.t 30) 13) [1, 0], .mk (some 32) none (.load none (.t 31)) [2, 1, 0], .mk (some 33) none (.len (.t 32)) [3, 2, 1, 0], .mk (some 34) none (.faddr (.t 4) 8) [], .mk (some 35) none (.load none (.t 34)) [5], .mk (some 36) none (.len (.t 35)) [6, 5], .mk (some 37) none (.bin .neq (.t 33) (.t 36)) [4, 7, 3, 2, 1, 0, 6, 5]])
  (.cond (.t 37) (.seq
  (.reg false [.mk (some 38) none (.build [.sl .full 16 [], .sl .full 3 []] []) [], .mk none none (.store 2 (.t 8) (.t 38)) [], .mk (some 9) none (.mv (.k (.int .i64 260))) []]) .ret) .skip)) (.seq (.regp [0, 1, 2, 3, 4, 5, 6, 7, 8, 9, 10, 11, 12, 13] [.mk (some 39) none (.mv (.t 12)) [], .mk (some 40) none (.nilck (.t 39)) [0], .mk (some 41) none (.faddr (.t 40) 13) [1, 0], .mk (some 42) none (.load none (.t 41)) [2, 1, 0], .mk (some 43) none (.load (some 10) (.t 4)) [], .mk (some 44) none (.mv (.t 12)) [], .mk (some 45) none (.nilck (.t 44)) [5], .mk (some 46) none (.faddr (.t 45) 13) [6, 5], .mk (some 47) none (.load none (.t 46)) [7, 6, 5], .mk (some 48) none (.mv (.t 2)) [], .mk (some 49) none (.call (.k (.fn 39 [] [])) [.t 43, .t 47, .t 48]) [4, 8, 9, 7, 6, 5], .mk (some 50) none (.build [.sl .full 16 [], .sl .full 3 []] [(0, 1, .t 42), (1, 1, .t 49)]) [3, 10, 2, 1, 0, 4, 8, 9, 7, 6, 5], .mk none none (.store 2 (.t 8) (.t 50)) [11, 3, 10, 2, 1, 0, 4, 8, 9, 7, 6, 5], .mk (some 9) none (.mv (.k (.int .i64 0))) [12, 11, 3, 10, 2, 1, 0, 4, 8, 9, 7, 6, 5]]) .ret)))))

theorem fn20 : FnIs Tryz.prog 20 51 ac20 [.cell 8 62, .tmp 9] := ⟨⟨Tryz.f20, _, Tryz.func20, rfl, Tryz.ntmps20, by kernel_rfl, by rw [Tryz.results20], by decide⟩⟩

def ac22 : ACode := .seq
  (.reg false [.mk (some 3) none (.box 10 (.t 0)) [], .mk (some 4) none (.fbox 2 (.t 1)) [], .mk (some 6) none (.mv (.k (.int .i64 0))) []]) (.seq
  (.reg false [.mk (some 7) none (.alloc [.int .i64 0]) [], .mk none none (.store 1 (.t 7) (.k (.int .i64 0))) []]) (.seq
  (.reg false [.mk (some 11) none (.mkfn 40 [] [.t 7]) [], .mk (some 8) none (.mv (.t 11)) []]) (.seq
  (.reg false [.mk (some 12) none (.mkfn 42 [] [.t 3]) [], .mk (some 9) none (.mv (.t 12)) []]) (.seq
  (.reg false [.mk (some 13) none (.faddr (.t 4) 0) [], .mk (some 14) none (.load none (.t 13)) [], .mk (some 15) none (.bin .leq (.k (.int .i64 0)) (.t 14)) [], .mk (some 16) none (.mv (.t 15)) [], .mk (some 17) (some (some 16, true)) (.faddr (.t 4) 0) [], .mk (some 18) (some (some 16, true)) (.load none (.t 17)) [], .mk (some 19) (some (some 16, true)) (.bin .leq (.t 18) (.k (.int .i64 2))) [], .mk (some 20) none (.pick (.t 16) (.t 19) (.k (.bool false))) [], .mk (some 21) none (.mv (.t 20)) [], .mk (some 22) (some (some 21, true)) (.faddr (.t 4) 1) [], .mk (some 23) (some (some 21, true)) (.load none (.t 22)) [], .mk (some 24) (some (some 21, true)) (.len (.t 23)) [], .mk (some 25) (some (some 21, true)) (.bin .leq (.t 24) (.k (.int .i64 40))) [], .mk (some 26) none (.pick (.t 21) (.t 25) (.k (.bool false))) [], .mk (some 27) none (.mv (.t 26)) [], .mk (some 28) (some (some 27, true)) (.faddr (.t 4) 1) [], .mk (some 29) (some (some 27, true)) (.load none (.t 28)) [], .mk (some 30) (some (some 27, true)) (.mv (.t 8)) [], .mk (some 31) (some (some 27, true)) (.call (.k (.fn 44 [] [])) [.t 29, .t 30]) [], .mk (some 32) (some (some 27, true)) (.un .not (.t 31)) [], .mk (some 33) none (.pick (.t 27) (.t 32) (.k (.bool false))) [], .mk (some 34) none (.mv (.t 33)) [], .mk (some 35) (some (some 34, true)) (.mv (.t 2)) [], .mk (some 36) (some (some 34, true)) (.mv (.t 9)) [], .mk (some 37) (some (some 34, true)) (.call (.k (.fn 45 [] [])) [.t 35, .t 36]) [], .mk (some 38) (some (some 34, true)) (.un .not (.t 37)) [], .mk (some 39) none (.pick (.t 34) (.t 38) (.k (.bool false))) [], .mk (some 40) none (.mv (.t 39)) [], .mk (some 41) (some (some 40, true)) (.mv (.t 2)) [], .mk (some 42) (some (some 40, true)) (.call (.k (.fn 46 [] [])) [.t 41, .k (.fn 47 [] [])]) [], .mk (some 43) none (.pick (.t 40) (.t 42) (.k (.bool false))) [], .mk (some 10) none (.mv (.t 43)) []]) (.seq (.seq
  (.reg false [.mk (some 44) none (.mv (.t 10)) [], .mk (some 45) none (.un .not (.t 44)) []])
  (.cond (.t 45) (.seq
  (.reg false [.mk (some 6) none (.mv (.k (.int .i64 1))) []]) .ret) .skip)) (.seq
  (.reg false [.mk (some 6) none (.mv (.k (.int .i64 0))) []]) .ret))))))

theorem fn22 : FnIs Tryz.prog 22 46 ac22 [.tmp 6] := ⟨⟨Tryz.f22, _, Tryz.func22, rfl, Tryz.ntmps22, by kernel_rfl, by rw [Tryz.results22], by decide⟩⟩

def ac23 : ACode := .seq
  (.reg false [.mk (some 4) none (.alloc [.int .i64 0, .sl .full 1 [], .sl .full 1 [], .sl .full 11 [], .sl .full 10 [], .int .i64 0, .int .i64 0, .sl .full 8 [], .int .i64 0, .int .i64 0, .int .i64 0, .int .i64 0, .int .i64 0, .int .i64 0, .int .i64 0, .int .i64 0, .int .i64 0, .sl .full 3 [], .int .i64 0, .sl .full 3 [], .sl .full 3 [], .sl .full 1 []]) [], .mk (some 5) none (.mv (.k (.bool false))) []]) (.seq (.seq
  (.reg false [.mk (some 12) none (.mv (.t 0)) [], .mk (some 13) none (.nilck (.t 12)) [], .mk (some 14) none (.faddr (.t 13) 14) [], .mk (some 15) none (.load none (.t 14)) [], .mk (some 16) none (.len (.t 15)) [], .mk (some 17) none (.bin .eql (.t 16) (.k (.int .i64 0))) []])
  (.cond (.t 17) (.seq
  (.reg false [.mk (some 18) none (.build [.int .i64 0, .sl .full 1 [], .sl .full 1 [], .sl .full 11 [], .sl .full 10 [], .int .i64 0, .int .i64 0, .sl .full 8 [], .int .i64 0, .int .i64 0, .int .i64 0, .int .i64 0, .int .i64 0, .int .i64 0, .int .i64 0, .int .i64 0, .int .i64 0, .sl .full 3 [], .int .i64 0, .sl .full 3 [], .sl .full 3 [], .sl .full 1 []] []) [], .mk none none (.store 22 (.t 4) (.t 18)) [], .mk (some 5) none (.mv (.k (.bool false))) []]) .ret) .skip)) (.seq
  (.reg false [.mk (some 19) none (.mv (.t 0)) [], .mk (some 20) none (.nilck (.t 19)) [], .mk (some 21) none (.faddr (.t 20) 14) [], .mk (some 22) none (.load none (.t 21)) [], .mk (some 23) none (.len (.t 22)) [], .mk (some 6) none (.mv (.t 23)) []]) (.seq
  (.reg true [.mk (some 24) none (.mv (.t 0)) [], .mk (some 25) none (.nilck (.t 24)) [0], .mk (some 26) none (.faddr (.t 25) 14) [1, 0], .mk (some 27) none (.load none (.t 26)) [2, 1, 0], .mk (some 28) none (.mv (.t 1)) [], .mk (some 29) none (.mv (.t 6)) [], .mk (some 30) none (.bin .rem (.t 28) (.t 29)) [4, 5], .mk (some 31) none (.mv (.t 6)) [], .mk (some 32) none (.bin .add (.t 30) (.t 31)) [6, 7, 4, 5], .mk (some 33) none (.mv (.t 6)) [], .mk (some 34) none (.bin .rem (.t 32) (.t 33)) [8, 9, 6, 7, 4, 5], .mk (some 35) none (.iaddr 1 (.t 27) (.t 34)) [3, 10, 2, 1, 0, 8, 9, 6, 7, 4, 5], .mk (some 36) none (.load none (.t 35)) [11, 3, 10, 2, 1, 0, 8, 9, 6, 7, 4, 5], .mk (some 7) none (.mv (.t 36)) [12, 11, 3, 10, 2, 1, 0, 8, 9, 6, 7, 4, 5]]) (.seq
  (.reg false [.mk (some 37) none (.mv (.t 0)) [], .mk (some 38) none (.call (.k (.fn 48 [] [])) [.t 37]) [], .mk (some 8) none (.mv (.t 38)) []]) (.seq (.regp [0, 1, 2, 3, 4, 5, 6, 7, 8, 9, 10, 11, 12, 13, 14, 15, 16] [.mk (some 40) none (.mv (.t 0)) [], .mk (some 41) none (.nilck (.t 40)) [0], .mk (some 42) none (.faddr (.t 41) 0) [1, 0], .mk (some 43) none (.load (some 10) (.t 42)) [2, 1, 0], .mk (some 44) none (.mv (.t 0)) [], .mk (some 45) none (.nilck (.t 44)) [4], .mk (some 46) none (.faddr (.t 45) 10) [5, 4], .mk (some 47) none (.load (some 2) (.t 46)) [6, 5, 4], .mk (some 48) none (.mv (.t 7)) [], .mk (some 49) none (.mv (.t 8)) [], .mk (some 50) none (.call (.k (.fn 49 [] [])) [.t 43, .t 47, .t 48, .t 49]) [3, 7, 8, 9, 2, 1, 0, 6, 5, 4], .mk (some 39) none (.mv (.t 50)) [10, 3, 7, 8, 9, 2, 1, 0, 6, 5, 4], .mk (some 51) none (.extr (.t 39) 0) [11, 10, 3, 7, 8, 9, 2, 1, 0, 6, 5, 4], .mk (some 52) none (.extr (.t 39) 1) [11, 10, 3, 7, 8, 9, 2, 1, 0, 6, 5, 4], .mk (some 9) none (.alloc [.int .i64 0, .sl .full 1 [], .sl .full 1 [], .sl .full 11 [], .sl .full 10 [], .int .i64 0]) [], .mk none none (.store 6 (.t 9) (.t 51)) [12, 14, 11, 10, 3, 7, 8, 9, 2, 1, 0, 6, 5, 4], .mk (some 10) none (.mv (.t 52)) [13, 15, 12, 14, 11, 10, 3, 7, 8, 9, 2, 1, 0, 6, 5, 4]]) (.seq (.seq
  (.reg false [.mk (some 53) none (.mv (.t 10)) [], .mk (some 54) none (.bin .neq (.t 53) (.k (.int .i64 0))) []])
  (.cond (.t 54) (.seq
  (.reg false [.mk (some 55) none (.build [.int .i64 0, .sl .full 1 [], .sl .full 1 [], .sl .full 11 [], .sl .full 10 [], .int .i64 0, .int .i64 0, .sl .full 8 [], .int .i64 0, .int .i64 0, .int .i64 0, .int .i64 0, .int .i64 0, .int .i64 0, .int .i64 0, .int .i64 0, .int .i64 0, .sl .full 3 [], .int .i64 0, .sl .full 3 [], .sl .full 3 [], .sl .full 1 []] []) [], .mk none none (.store 22 (.t 4) (.t 55)) [], .mk (some 5) none (.mv (.k (.bool false))) []]) .ret) .skip)) (.seq (.regp [0, 1, 2, 3, 4, 5, 6, 7, 8, 9, 10, 11, 12, 13, 14, 15, 16] [.mk (some 57) none (.mv (.t 0)) [], .mk (some 58) none (.nilck (.t 57)) [0], .mk (some 59) none (.faddr (.t 58) 0) [1, 0], .mk (some 60) none (.load (some 10) (.t 59)) [2, 1, 0], .mk (some 61) none (.mv (.t 0)) [], .mk (some 62) none (.nilck (.t 61)) [4], .mk (some 63) none (.faddr (.t 62) 10) [5, 4], .mk (some 64) none (.load (some 2) (.t 63)) [6, 5, 4], .mk (some 65) none (.mv (.t 7)) [], .mk (some 66) none (.mv (.t 8)) [], .mk (some 67) none (.call (.k (.fn 50 [] [])) [.t 60, .t 64, .t 65, .t 66]) [3, 7, 8, 9, 2, 1, 0, 6, 5, 4], .mk (some 56) none (.mv (.t 67)) [10, 3, 7, 8, 9, 2, 1, 0, 6, 5, 4], .mk (some 68) none (.extr (.t 56) 0) [11, 10, 3, 7, 8, 9, 2, 1, 0, 6, 5, 4], .mk (some 69) none (.extr (.t 56) 1) [11, 10, 3, 7, 8, 9, 2, 1, 0, 6, 5, 4], .mk (some 11) none (.alloc [.int .i64 0, .sl .full 8 [], .int .i64 0, .int .i64 0, .int .i64 0, .int .i64 0, .int .i64 0, .int .i64 0, .int .i64 0, .int .i64 0, .int .i64 0, .sl .full 3 [], .int .i64 0, .sl .full 3 [], .sl .full 3 [], .sl .full 1 []]) [], .mk none none (.store 16 (.t 11) (.t 68)) [12, 14, 11, 10, 3, 7, 8, 9, 2, 1, 0, 6, 5, 4], .mk (some 10) none (.mv (.t 69)) [13, 15, 12, 14, 11, 10, 3, 7, 8, 9, 2, 1, 0, 6, 5, 4]]) (.seq
  (.reg false [.mk (some 70) none (.load (some 6) (.t 9)) [], .mk (some 71) none (.load (some 16) (.t 11)) [], .mk (some 72) none (.build [.int .i64 0, .sl .full 1 [], .sl .full 1 [], .sl .full 11 [], .sl .full 10 [], .int .i64 0, .int .i64 0, .sl .full 8 [], .int .i64 0, .int .i64 0, .int .i64 0, .int .i64 0, .int .i64 0, .int .i64 0, .int .i64 0, .int .i64 0, .int .i64 0, .sl .full 3 [], .int .i64 0, .sl .full 3 [], .sl .full 3 [], .sl .full 1 []] [(0, 6, .t 70), (6, 16, .t 71)]) [], .mk (some 73) none (.mv (.t 10)) [], .mk (some 74) none (.bin .eql (.t 73) (.k (.int .i64 0))) [], .mk none none (.store 22 (.t 4) (.t 72)) [], .mk (some 5) none (.mv (.t 74)) []]) .ret))))))))

theorem fn23 : FnIs Tryz.prog 23 75 ac23 [.cell 4 42, .tmp 5] := ⟨⟨Tryz.f23, _, Tryz.func23, rfl, Tryz.ntmps23, by kernel_rfl, by rw [Tryz.results23], by decide⟩⟩

def ac24 : ACode := .seq
  (.reg false [.mk (some 4) none (.box 10 (.t 0)) [], .mk (some 5) none (.box 2 (.t 1)) [], .mk (some 8) none (.mv (.k .nilp)) []]) (.seq
  (.reg false [.mk (some 18) none (.load (some 10) (.t 4)) [], .mk (some 19) none (.load (some 2) (.t 5)) [], .mk (some 20) none (.mv (.t 2)) [], .mk (some 21) none (.build [.sl .full 3 [], .sl .full 3 [], .sl .full 4 [], .sl .full 1 [], .int .i64 0, .int .i64 0, .int .i64 0, .sl .full 5 [], .sl .full 12 [], .sl .full 1 [], .int .i64 0, .sl .full 10 [], .sl .full 11 [], .sl .full 16 [], .sl .full 1 []] [(0, 10, .t 18), (10, 2, .t 19), (12, 1, .t 20)]) [], .mk (some 22) none (.box 15 (.t 21)) [], .mk (some 9) none (.mv (.t 22)) []]) (.seq (.seq
  (.reg false [.mk (some 23) none (.load (some 10) (.t 4)) [], .mk (some 24) none (.call (.k (.fn 51 [] [])) [.t 23]) [], .mk (some 25) none (.len (.t 24)) [], .mk (some 26) none (.mv (.k (.int .i64 0))) []])
  (.block 0
  (.loop (.seq
  (.reg false [.mk (some 27) none (.bin .lss (.t 26) (.t 25)) []]) (.seq
  (.cond (.t 27) .skip (.exit 0)) (.seq
  (.block 1 (.seq
  (.reg false [.mk (some 28) none (.iaddr 1 (.t 24) (.t 26)) [], .mk (some 29) none (.load none (.t 28)) [], .mk (some 11) none (.alloc [.int .i64 0]) [], .mk none none (.store 1 (.t 11) (.t 29)) []]) (.seq (.seq
  (.reg false [.mk (some 30) none (.mv (.t 9)) [], .mk (some 31) none (.load none (.t 11)) [], .mk (some 32) none (.call (.k (.fn 52 [] [])) [.t 30, .t 31]) []])
  (.cond (.t 32) (.exit 1) .skip)) (.seq
  (.reg false [.mk (some 33) none (.mv (.t 9)) [], .mk (some 34) none (.call (.k (.fn 48 [] [])) [.t 33]) [], .mk (some 12) none (.alloc [.sl .full 11 []]) [], .mk none none (.store 1 (.t 12) (.t 34)) []]) (.seq
  (.reg false [.mk (some 36) none (.load (some 10) (.t 4)) [], .mk (some 37) none (.load (some 2) (.t 5)) [], .mk (some 38) none (.load none (.t 11)) [], .mk (some 39) none (.load none (.t 12)) [], .mk (some 40) none (.call (.k (.fn 49 [] [])) [.t 36, .t 37, .t 38, .t 39]) [], .mk (some 35) none (.mv (.t 40)) [], .mk (some 41) none (.extr (.t 35) 0) [], .mk (some 42) none (.extr (.t 35) 1) [], .mk (some 13) none (.alloc [.int .i64 0, .sl .full 1 [], .sl .full 1 [], .sl .full 11 [], .sl .full 10 [], .int .i64 0]) [], .mk (some 14) none (.alloc [.int .i64 0]) [], .mk none none (.store 6 (.t 13) (.t 41)) [], .mk none none (.store 1 (.t 14) (.t 42)) []]) (.seq
  (.reg false [.mk (some 43) none (.mv (.t 3)) [], .mk (some 44) none (.mkfn 54 [] [.t 14, .t 11, .t 13, .t 4, .t 5, .t 12]) [], .mk (some 45) none (.call (.k (.fn 53 [] [])) [.t 43, .t 44]) [], .mk (some 15) none (.mv (.t 45)) []]) (.seq (.seq
  (.reg false [.mk (some 46) none (.mv (.t 15)) [], .mk (some 47) none (.bin .lss (.t 46) (.k (.int .i64 0))) []])
  (.cond (.t 47) (.seq
  (.reg true [.mk (some 48) none (.mv (.t 9)) [], .mk (some 49) none (.mv (.t 9)) [], .mk (some 50) none (.nilck (.t 49)) [1], .mk (some 51) none (.faddr (.t 50) 14) [2, 1], .mk (some 52) none (.load none (.t 51)) [3, 2, 1], .mk (some 53) none (.load none (.t 11)) [], .mk (some 54) none (.bslice false 1 [.int .i64 0] 1 [(0, .t 53)]) [5], .mk (some 55) none (.append 1 8 (.t 52) (.t 54)) [4, 6, 3, 2, 1, 5], .mk (some 56) none (.nilck (.t 48)) [0, 7, 4, 6, 3, 2, 1, 5], .mk (some 57) none (.faddr (.t 56) 14) [8, 0, 7, 4, 6, 3, 2, 1, 5], .mk none none (.store 1 (.t 57) (.t 55)) [9, 8, 0, 7, 4, 6, 3, 2, 1, 5]]) (.exit 1)) .skip)) (.seq
  (.reg true [.mk (some 59) none (.mv (.t 9)) [], .mk (some 60) none (.nilck (.t 59)) [0], .mk (some 61) none (.faddr (.t 60) 13) [1, 0], .mk (some 62) none (.load none (.t 61)) [2, 1, 0], .mk (some 63) none (.load none (.t 11)) [], .mk (some 64) none (.call (.k (.fn 57 [] [])) [.t 62, .t 63, .k (.fn 58 [] [])]) [3, 4, 2, 1, 0], .mk (some 58) none (.mv (.t 64)) [5, 3, 4, 2, 1, 0], .mk (some 65) none (.extr (.t 58) 0) [6, 5, 3, 4, 2, 1, 0], .mk (some 66) none (.extr (.t 58) 1) [6, 5, 3, 4, 2, 1, 0], .mk (some 16) none (.mv (.t 65)) [7, 6, 5, 3, 4, 2, 1, 0], .mk (some 17) none (.mv (.t 66)) [8, 9, 7, 6, 5, 3, 4, 2, 1, 0]])
  (.reg true [.mk (some 67) none (.mv (.t 9)) [], .mk (some 68) none (.mv (.t 9)) [], .mk (some 69) none (.nilck (.t 68)) [1], .mk (some 70) none (.faddr (.t 69) 13) [2, 1], .mk (some 71) none (.load none (.t 70)) [3, 2, 1], .mk (some 72) none (.mv (.t 16)) [], .mk (some 73) none (.mv (.t 3)) [], .mk (some 74) none (.mv (.t 15)) [], .mk (some 75) none (.iaddr 22 (.t 73) (.t 74)) [6, 7], .mk (some 76) none (.faddr (.t 75) 6) [8, 6, 7], .mk (some 77) none (.load (some 16) (.t 76)) [9, 8, 6, 7], .mk (some 78) none (.bslice true 16 [.int .i64 0, .sl .full 8 [], .int .i64 0, .int .i64 0, .int .i64 0, .int .i64 0, .int .i64 0, .int .i64 0, .int .i64 0, .int .i64 0, .int .i64 0, .sl .full 3 [], .int .i64 0, .sl .full 3 [], .sl .full 3 [], .sl .full 1 []] 1 [(0, .t 77)]) [10, 9, 8, 6, 7], .mk (some 79) none (.call (.k (.fn 60 [] [])) [.t 71, .t 72, .t 78]) [4, 5, 11, 3, 2, 1, 10, 9, 8, 6, 7], .mk (some 80) none (.nilck (.t 67)) [0, 12, 4, 5, 11, 3, 2, 1, 10, 9, 8, 6, 7], .mk (some 81) none (.faddr (.t 80) 13) [13, 0, 12, 4, 5, 11, 3, 2, 1, 10, 9, 8, 6, 7], .mk none none (.store 1 (.t 81) (.t 79)) [14, 13, 0, 12, 4, 5, 11, 3, 2, 1, 10, 9, 8, 6, 7]])))))))))
  (.reg false [.mk (some 82) none (.bin .add (.t 26) (.k (.int .i64 1))) [], .mk (some 26) none (.mv (.t 82)) []]))))))) (.seq
  (.reg false [.mk (some 83) none (.mv (.t 9)) [], .mk (some 84) none (.nilck (.t 83)) [], .mk (some 85) none (.faddr (.t 84) 14) [], .mk (some 86) none (.load none (.t 85)) [], .mk (some 87) none (.call (.k (.fn 61 [] [])) [.t 86]) []]) (.seq
  (.reg false [.mk (some 88) none (.mv (.t 9)) [], .mk (some 8) none (.mv (.t 88)) []]) .ret))))

theorem fn24 : FnIs Tryz.prog 24 89 ac24 [.tmp 8] := ⟨⟨Tryz.f24, _, Tryz.func24, rfl, Tryz.ntmps24, by kernel_rfl, by rw [Tryz.results24], by decide⟩⟩

def ac25 : ACode := .seq
  (.reg false [.mk (some 6) none (.mv (.k (.int .i64 0))) []]) (.seq
  (.reg false [.mk (some 7) none (.mv (.t 1)) [], .mk (some 8) none (.call (.k (.fn 62 [] [])) [.t 7]) [], .mk (some 1) none (.mv (.t 8)) []]) (.seq
  (.reg false [.mk (some 9) none (.mv (.t 2)) [], .mk (some 10) none (.call (.k (.fn 62 [] [])) [.t 9]) [], .mk (some 2) none (.mv (.t 10)) []]) (.seq (.seq
  (.reg false [.mk (some 11) none (.mv (.t 0)) []])
  (.block 0 (.seq
  (.reg false [.mk (some 13) none (.bin .eql (.t 11) (.k (.int .i64 4))) [], .mk (some 12) none (.mv (.t 13)) []])
  (.cond (.t 12) (.seq
  (.reg false [.mk (some 14) none (.mv (.t 1)) [], .mk (some 15) none (.mv (.t 2)) [], .mk (some 16) none (.bin .add (.t 14) (.t 15)) [], .mk (some 17) none (.call (.k (.fn 62 [] [])) [.t 16]) [], .mk (some 6) none (.mv (.t 17)) []]) .ret) (.seq
  (.reg false [.mk (some 19) none (.bin .eql (.t 11) (.k (.int .i64 5))) [], .mk (some 18) none (.mv (.t 19)) []])
  (.cond (.t 18) (.seq
  (.reg false [.mk (some 20) none (.mv (.t 1)) [], .mk (some 21) none (.mv (.t 2)) [], .mk (some 22) none (.bin .sub (.t 20) (.t 21)) [], .mk (some 23) none (.call (.k (.fn 62 [] [])) [.t 22]) [], .mk (some 6) none (.mv (.t 23)) []]) .ret) (.seq
  (.reg false [.mk (some 25) none (.bin .eql (.t 11) (.k (.int .i64 6))) [], .mk (some 24) none (.mv (.t 25)) []])
  (.cond (.t 24) (.seq
  (.reg false [.mk (some 26) none (.mv (.t 1)) [], .mk (some 27) none (.mv (.t 2)) [], .mk (some 28) none (.bin .mul (.t 26) (.t 27)) [], .mk (some 29) none (.call (.k (.fn 62 [] [])) [.t 28]) [], .mk (some 6) none (.mv (.t 29)) []]) .ret) (.seq
  (.reg false [.mk (some 31) none (.bin .eql (.t 11) (.k (.int .i64 7))) [], .mk (some 30) none (.mv (.t 31)) []])
  (.cond (.t 30) (.seq
  (.reg false [.mk (some 32) none (.mv (.t 2)) [], .mk (some 33) none (.bin .neq (.t 32) (.k (.int .i64 0))) []])
  (.cond (.t 33) (.seq
  (.reg false [.mk (some 34) none (.mv (.t 1)) [], .mk (some 35) none (.mv (.t 2)) [], .mk (some 36) none (.bin .quo (.t 34) (.t 35)) [], .mk (some 37) none (.call (.k (.fn 62 [] [])) [.t 36]) [], .mk (some 6) none (.mv (.t 37)) []]) .ret) .skip)) (.seq
  (.reg false [.mk (some 39) none (.bin .eql (.t 11) (.k (.int .i64 8))) [], .mk (some 38) none (.mv (.t 39)) []])
  (.cond (.t 38) (.seq (.seq
  (.reg false [.mk (some 40) none (.mv (.t 2)) [], .mk (some 41) none (.bin .eql (.t 40) (.k (.int .i64 0))) []])
  (.cond (.t 41) (.seq
  (.reg false [.mk (some 42) none (.mv (.t 1)) [], .mk (some 6) none (.mv (.t 42)) []]) .ret) .skip)) (.seq
  (.reg false [.mk (some 43) none (.mv (.t 1)) [], .mk (some 44) none (.mv (.t 2)) [], .mk (some 45) none (.bin .rem (.t 43) (.t 44)) [], .mk (some 6) none (.mv (.t 45)) []]) .ret)) (.seq
  (.reg false [.mk (some 47) none (.bin .eql (.t 11) (.k (.int .i64 9))) [], .mk (some 46) none (.mv (.t 47)) []])
  (.cond (.t 46) (.seq
  (.reg false [.mk (some 48) none (.mv (.t 1)) [], .mk (some 49) none (.mv (.t 2)) [], .mk (some 50) none (.mnx false (.t 48) (.t 49)) [], .mk (some 6) none (.mv (.t 50)) []]) .ret) (.seq
  (.reg false [.mk (some 52) none (.bin .eql (.t 11) (.k (.int .i64 10))) [], .mk (some 51) none (.mv (.t 52)) []])
  (.cond (.t 51) (.seq
  (.reg false [.mk (some 53) none (.mv (.t 1)) [], .mk (some 54) none (.mv (.t 2)) [], .mk (some 55) none (.mnx true (.t 53) (.t 54)) [], .mk (some 6) none (.mv (.t 55)) []]) .ret) .skip)))))))))))))))) (.seq
  (.reg false [.mk (some 6) none (.mv (.k (.int .i64 0))) []]) .ret))))

theorem fn25 : FnIs Tryz.prog 25 56 ac25 [.tmp 6] := ⟨⟨Tryz.f25, _, Tryz.func25, rfl, Tryz.ntmps25, by kernel_rfl, by rw [Tryz.results25], by decide⟩⟩

def ac62 : ACode := .seq
  (.reg false [.mk (some 2) none (.mv (.k (.int .i64 0))) []]) (.seq
  (.reg false [.mk (some 3) none (.mv (.t 0)) [], .mk (some 4) none (.bin .rem (.t 3) (.k (.int .i64 4294967296))) [], .mk (some 0) none (.mv (.t 4)) []]) (.seq (.seq
  (.reg false [.mk (some 5) none (.mv (.t 0)) [], .mk (some 6) none (.bin .lss (.t 5) (.k (.int .i64 (-2147483648)))) []])
  (.cond (.t 6) (.seq
  (.reg false [.mk (some 7) none (.mv (.t 0)) [], .mk (some 8) none (.bin .add (.t 7) (.k (.int .i64 4294967296))) [], .mk (some 2) none (.mv (.t 8)) []]) .ret) .skip)) (.seq (.seq
  (.reg false [.mk (some 9) none (.mv (.t 0)) [], .mk (some 10) none (.bin .gtr (.t 9) (.k (.int .i64 2147483647))) []])
  (.cond (.t 10) (.seq
  (.reg false [.mk (some 11) none (.mv (.t 0)) [], .mk (some 12) none (.bin .sub (.t 11) (.k (.int .i64 4294967296))) [], .mk (some 2) none (.mv (.t 12)) []]) .ret) .skip)) (.seq
  (.reg false [.mk (some 13) none (.mv (.t 0)) [], .mk (some 2) none (.mv (.t 13)) []]) .ret))))

theorem fn62 : FnIs Tryz.prog 62 14 ac62 [.tmp 2] := ⟨⟨Tryz.f62, _, Tryz.func62, rfl, Tryz.ntmps62, by kernel_rfl, by rw [Tryz.results62], by decide⟩⟩

def ac39 : ACode := .seq
  (.reg false [.mk (some 3) none (.fbox 10 (.t 0)) [], .mk (some 6) none (.mv (.k (.sl .full 3 []))) []]) (.seq
  (.reg false [.mk (some 24) none .mkmap [], .mk (some 7) none (.mv (.t 24)) []]) (.seq (.seq
  (.reg false [.mk (some 25) none (.load (some 10) (.t 3)) [], .mk (some 26) none (.mv (.t 1)) [], .mk (some 27) none (.mv (.t 2)) [], .mk (some 28) none (.call (.k (.fn 89 [] [])) [.t 25, .t 26, .t 27]) [], .mk (some 29) none (.len (.t 28)) [], .mk (some 30) none (.mv (.k (.int .i64 0))) []])
  (.block 0
  (.loop (.seq
  (.reg false [.mk (some 31) none (.bin .lss (.t 30) (.t 29)) []]) (.seq
  (.cond (.t 31) .skip (.exit 0)) (.seq
  (.block 1 (.seq
  (.reg false [.mk (some 32) none (.iaddr 11 (.t 28) (.t 30)) [], .mk (some 33) none (.load (some 11) (.t 32)) [], .mk (some 9) none (.alloc [.int .i64 0, .int .i64 0, .int .i64 0, .int .i64 0, .int .i64 0, .int .i64 0, .int .i64 0, .int .i64 0, .int .i64 0, .sl .full 3 [], .int .i64 0]) [], .mk none none (.store 11 (.t 9) (.t 33)) []]) (.seq
  (.reg false [.mk (some 35) none (.load (some 10) (.t 3)) [], .mk (some 36) none (.faddr (.t 9) 0) [], .mk (some 37) none (.load none (.t 36)) [], .mk (some 38) none (.call (.k (.fn 90 [] [])) [.t 35, .t 37]) [], .mk (some 34) none (.mv (.t 38)) [], .mk (some 39) none (.extr (.t 34) 0) [], .mk (some 40) none (.extr (.t 34) 1) [], .mk (some 10) none (.alloc [.int .i64 0, .int .i64 0, .str (ByteArray.mk (Array.mk [])), .int .i64 0, .int .i64 0, .sl .full 3 [], .sl .full 3 [], .int .i64 0, .int .i64 0, .sl .full 2 [], .int .i64 0, .sl .full 20 []]) [], .mk none none (.store 12 (.t 10) (.t 39)) [], .mk (some 11) none (.mv (.t 40)) []]) (.seq
  (.reg false [.mk (some 41) none (.mv (.t 11)) [], .mk (some 42) none (.un .not (.t 41)) []])
  (.cond (.t 42)
  (.reg false [.mk (some 43) none (.mv (.t 7)) [], .mk (some 44) none (.faddr (.t 9) 9) [], .mk (some 45) none (.load none (.t 44)) [], .mk (some 46) none (.call (.k (.fn 91 [] [])) [.t 43, .t 45]) []]) .skip)))))
  (.reg false [.mk (some 47) none (.bin .add (.t 30) (.k (.int .i64 1))) [], .mk (some 30) none (.mv (.t 47)) []]))))))) (.seq (.seq
  (.reg false [.mk (some 48) none (.mv (.t 1)) [], .mk (some 49) none (.len (.t 48)) [], .mk (some 50) none (.mv (.k (.int .i64 0))) []])
  (.block 2
  (.loop (.seq
  (.reg false [.mk (some 51) none (.bin .lss (.t 50) (.t 49)) []]) (.seq
  (.cond (.t 51) .skip (.exit 2)) (.seq
  (.block 3 (.seq
  (.reg false [.mk (some 52) none (.iaddr 16 (.t 48) (.t 50)) [], .mk (some 53) none (.load (some 16) (.t 52)) [], .mk (some 13) none (.alloc [.int .i64 0, .sl .full 8 [], .int .i64 0, .int .i64 0, .int .i64 0, .int .i64 0, .int .i64 0, .int .i64 0, .int .i64 0, .int .i64 0, .int .i64 0, .sl .full 3 [], .int .i64 0, .sl .full 3 [], .sl .full 3 [], .sl .full 1 []]) [], .mk none none (.store 16 (.t 13) (.t 53)) []])
  (.reg false [.mk (some 54) none (.mv (.t 7)) [], .mk (some 55) none (.faddr (.t 13) 14) [], .mk (some 56) none (.load none (.t 55)) [], .mk (some 57) none (.call (.k (.fn 91 [] [])) [.t 54, .t 56]) []])))
  (.reg false [.mk (some 58) none (.bin .add (.t 50) (.k (.int .i64 1))) [], .mk (some 50) none (.mv (.t 58)) []]))))))) (.seq
  (.reg false [.mk (some 59) none (.mv (.t 7)) [], .mk (some 60) none (.call (.k (.fn 92 [] [])) [.t 59]) [], .mk (some 14) none (.mv (.t 60)) []]) (.seq
  (.reg false [.mk (some 61) none .mkmap [], .mk (some 15) none (.mv (.t 61)) []]) (.seq (.seq
  (.reg false [.mk (some 62) none (.mv (.t 1)) [], .mk (some 63) none (.len (.t 62)) [], .mk (some 64) none (.mv (.k (.int .i64 0))) []])
  (.block 4
  (.loop (.seq
  (.reg false [.mk (some 65) none (.bin .lss (.t 64) (.t 63)) []]) (.seq
  (.cond (.t 65) .skip (.exit 4)) (.seq
  (.block 5 (.seq
  (.reg false [.mk (some 66) none (.iaddr 16 (.t 62) (.t 64)) [], .mk (some 67) none (.load (some 16) (.t 66)) [], .mk (some 17) none (.alloc [.int .i64 0, .sl .full 8 [], .int .i64 0, .int .i64 0, .int .i64 0, .int .i64 0, .int .i64 0, .int .i64 0, .int .i64 0, .int .i64 0, .int .i64 0, .sl .full 3 [], .int .i64 0, .sl .full 3 [], .sl .full 3 [], .sl .full 1 []]) [], .mk none none (.store 16 (.t 17) (.t 67)) []]) (.seq (.seq
  (.reg false [.mk (some 68) none (.faddr (.t 17) 13) [], .mk (some 69) none (.load none (.t 68)) [], .mk (some 70) none (.len (.t 69)) [], .mk (some 71) none (.mv (.k (.int .i64 0))) []])
  (.block 6
  (.loop (.seq
  (.reg false [.mk (some 72) none (.bin .lss (.t 71) (.t 70)) []]) (.seq
  (.cond (.t 72) .skip (.exit 6)) (.seq
  (.block 7 (.seq
  (.reg false [.mk (some 73) none (.iaddr 3 (.t 69) (.t 71)) [], .mk (some 74) none (.load (some 3) (.t 73)) [], .mk (some 19) none (.alloc [.int .i64 0, .int .i64 0, .int .i64 0]) [], .mk none none (.store 3 (.t 19) (.t 74)) []])
  (.reg false [.mk (some 75) none (.mv (.t 15)) [], .mk (some 76) none (.load (some 3) (.t 19)) [], .mk none none .stuck []])))
  (.reg false [.mk (some 77) none (.bin .add (.t 71) (.k (.int .i64 1))) [], .mk (some 71) none (.mv (.t 77)) []]))))))) (.seq (.seq
  (.reg false [.mk (some 78) none (.faddr (.t 17) 14) [], .mk (some 79) none (.load none (.t 78)) [], .mk (some 80) none (.len (.t 79)) [], .mk (some 81) none (.mv (.k (.int .i64 0))) []])
  (.block 8
  (.loop (.seq
  (.reg false [.mk (some 82) none (.bin .lss (.t 81) (.t 80)) []]) (.seq
  (.cond (.t 82) .skip (.exit 8)) (.seq
  (.block 9 (.seq
  (.reg false [.mk (some 83) none (.iaddr 3 (.t 79) (.t 81)) [], .mk (some 84) none (.load (some 3) (.t 83)) [], .mk (some 21) none (.alloc [.int .i64 0, .int .i64 0, .int .i64 0]) [], .mk none none (.store 3 (.t 21) (.t 84)) []]) (.seq
  (.reg false [.mk (some 85) none (.mv (.t 14)) [], .mk (some 86) none (.load (some 3) (.t 21)) [], .mk (some 87) none (.call (.t 85) [.t 86]) []])
  (.cond (.t 87)
  (.reg false [.mk (some 88) none (.mv (.t 15)) [], .mk (some 89) none (.faddr (.t 17) 0) [], .mk (some 90) none (.load none (.t 89)) [], .mk (some 91) none (.faddr (.t 21) 2) [], .mk (some 92) none (.load none (.t 91)) [], .mk (some 93) none (.build [.int .i64 0, .int .i64 0, .int .i64 0] [(0, 1, .t 90), (1, 1, .t 92), (2, 1, .k (.int .i64 14))]) [], .mk none none .stuck []]) .skip))))
  (.reg false [.mk (some 94) none (.bin .add (.t 81) (.k (.int .i64 1))) [], .mk (some 81) none (.mv (.t 94)) []]))))))) (.seq
  (.reg false [.mk (some 96) none (.load (some 10) (.t 3)) [], .mk (some 97) none (.faddr (.t 17) 0) [], .mk (some 98) none (.load none (.t 97)) [], .mk (some 99) none (.call (.k (.fn 90 [] [])) [.t 96, .t 98]) [], .mk (some 95) none (.mv (.t 99)) [], .mk (some 100) none (.extr (.t 95) 0) [], .mk (some 101) none (.extr (.t 95) 1) [], .mk (some 22) none (.alloc [.int .i64 0, .int .i64 0, .str (ByteArray.mk (Array.mk [])), .int .i64 0, .int .i64 0, .sl .full 3 [], .sl .full 3 [], .int .i64 0, .int .i64 0, .sl .full 2 [], .int .i64 0, .sl .full 20 []]) [], .mk none none (.store 12 (.t 22) (.t 100)) [], .mk (some 23) none (.mv (.t 101)) []]) (.seq
  (.reg false [.mk (some 102) none (.faddr (.t 17) 2) [], .mk (some 103) none (.faddr (.t 102) 6) [], .mk (some 104) none (.load none (.t 103)) [], .mk (some 105) none (.bin .neq (.t 104) (.k (.int .i64 0))) [], .mk (some 106) none (.mv (.t 105)) [], .mk (some 107) (some (some 106, true)) (.faddr (.t 3) 9) [], .mk (some 108) (some (some 106, true)) (.load none (.t 107)) [], .mk (some 109) (some (some 106, true)) (.faddr (.t 17) 0) [], .mk (some 110) (some (some 106, true)) (.load none (.t 109)) [], .mk (some 111) (some (some 106, true)) (.call (.k (.fn 93 [] [])) [.t 108, .t 110]) [], .mk (some 112) none (.pick (.t 106) (.t 111) (.k (.bool false))) []])
  (.cond (.t 112)
  (.reg false [.mk (some 113) none (.mv (.t 15)) [], .mk (some 114) none (.faddr (.t 17) 0) [], .mk (some 115) none (.load none (.t 114)) [], .mk (some 116) none (.faddr (.t 22) 1) [], .mk (some 117) none (.load none (.t 116)) [], .mk (some 118) none (.build [.int .i64 0, .int .i64 0, .int .i64 0] [(0, 1, .t 115), (1, 1, .t 117), (2, 1, .k (.int .i64 9))]) [], .mk none none .stuck []]) .skip)))))))
  (.reg false [.mk (some 119) none (.bin .add (.t 64) (.k (.int .i64 1))) [], .mk (some 64) none (.mv (.t 119)) []]))))))) (.seq
  (.reg false [.mk (some 120) none (.mv (.t 15)) [], .mk (some 121) none (.call (.k (.fn 95 [] [])) [.t 120]) [], .mk (some 122) none (.call (.k (.fn 94 [] [])) [.t 121, .k (.fn 96 [] [])]) [], .mk (some 6) none (.mv (.t 122)) []]) .ret)))))))

theorem fn39 : FnIs Tryz.prog 39 123 ac39 [.tmp 6] := ⟨⟨Tryz.f39, _, Tryz.func39, rfl, Tryz.ntmps39, by kernel_rfl, by rw [Tryz.results39], by decide⟩⟩

def ac44 : ACode := .seq
  (.reg false [.mk (some 4) none (.mv (.k (.bool false))) []]) (.seq
  (.reg false [.mk (some 5) none (.mv (.t 0)) [], .mk (some 6) none (.mv (.t 1)) [], .mk (some 7) none (.call (.k (.fn 104 [] [])) [.t 5, .t 6]) [], .mk (some 8) none (.bin .geq (.t 7) (.k (.int .i64 0))) [], .mk (some 4) none (.mv (.t 8)) []]) .ret)

theorem fn44 : FnIs Tryz.prog 44 9 ac44 [.tmp 4] := ⟨⟨Tryz.f44, _, Tryz.func44, rfl, Tryz.ntmps44, by kernel_rfl, by rw [Tryz.results44], by decide⟩⟩

def ac45 : ACode := .seq
  (.reg false [.mk (some 4) none (.mv (.k (.bool false))) []]) (.seq
  (.reg false [.mk (some 5) none (.mv (.t 0)) [], .mk (some 6) none (.mv (.t 1)) [], .mk (some 7) none (.call (.k (.fn 105 [] [])) [.t 5, .t 6]) [], .mk (some 8) none (.bin .geq (.t 7) (.k (.int .i64 0))) [], .mk (some 4) none (.mv (.t 8)) []]) .ret)

theorem fn45 : FnIs Tryz.prog 45 9 ac45 [.tmp 4] := ⟨⟨Tryz.f45, _, Tryz.func45, rfl, Tryz.ntmps45, by kernel_rfl, by rw [Tryz.results45], by decide⟩⟩

def ac46 : ACode := .seq
  (.reg false [.mk (some 4) none (.mv (.k (.bool false))) []]) (.seq
  (.reg false [.mk (some 8) none .mkmap [], .mk (some 5) none (.mv (.t 8)) []]) (.seq (.seq
  (.reg false [.mk (some 9) none (.mv (.t 0)) [], .mk (some 10) none (.len (.t 9)) [], .mk (some 11) none (.mv (.k (.int .i64 0))) []])
  (.block 0
  (.loop (.seq
  (.reg false [.mk (some 12) none (.bin .lss (.t 11) (.t 10)) []]) (.seq
  (.cond (.t 12) .skip (.exit 0)) (.seq
  (.block 1 (.seq
  (.reg false [.mk (some 13) none (.iaddr 11 (.t 9) (.t 11)) [], .mk (some 14) none (.load (some 11) (.t 13)) [], .mk (some 7) none (.alloc [.int .i64 0, .int .i64 0, .int .i64 0, .int .i64 0, .int .i64 0, .int .i64 0, .int .i64 0, .int .i64 0, .int .i64 0, .sl .full 3 [], .int .i64 0]) [], .mk none none (.store 11 (.t 7) (.t 14)) []])
  (.reg false [.mk (some 15) none (.mv (.t 5)) [], .mk (some 16) none (.mv (.t 1)) [], .mk (some 17) none (.load (some 11) (.t 7)) [], .mk (some 18) none (.call (.t 16) [.t 17]) [], .mk none none .stuck []])))
  (.reg false [.mk (some 19) none (.bin .add (.t 11) (.k (.int .i64 1))) [], .mk (some 11) none (.mv (.t 19)) []]))))))) (.seq
  (.reg false [.mk (some 20) none (.mv (.t 5)) [], .mk (some 21) none (.mlen (.t 20)) [], .mk (some 22) none (.mv (.t 0)) [], .mk (some 23) none (.len (.t 22)) [], .mk (some 24) none (.bin .eql (.t 21) (.t 23)) [], .mk (some 4) none (.mv (.t 24)) []]) .ret)))

theorem fn46 : FnIs Tryz.prog 46 25 ac46 [.tmp 4] := ⟨⟨Tryz.f46, _, Tryz.func46, rfl, Tryz.ntmps46, by kernel_rfl, by rw [Tryz.results46], by decide⟩⟩

def ac51 : ACode := .seq
  (.reg false [.mk (some 1) none (.fbox 10 (.t 0)) [], .mk (some 2) none (.mv (.k (.sl .full 1 []))) []]) (.seq
  (.reg false [.mk (some 3) none (.mv (.k (.sl .full 1 []))) []]) (.seq
  (.reg false [.mk (some 9) none .mkmap [], .mk (some 4) none (.alloc [.nilm]) [], .mk none none (.store 1 (.t 4) (.t 9)) []]) (.seq (.seq
  (.reg false [.mk (some 10) none (.faddr (.t 1) 8) [], .mk (some 11) none (.load none (.t 10)) [], .mk (some 12) none (.len (.t 11)) [], .mk (some 13) none (.mv (.k (.int .i64 0))) []])
  (.block 0
  (.loop (.seq
  (.reg false [.mk (some 14) none (.bin .lss (.t 13) (.t 12)) []]) (.seq
  (.cond (.t 14) .skip (.exit 0)) (.seq
  (.block 1 (.seq
  (.reg false [.mk (some 15) none (.iaddr 12 (.t 11) (.t 13)) [], .mk (some 16) none (.load (some 12) (.t 15)) [], .mk (some 6) none (.alloc [.int .i64 0, .int .i64 0, .str (ByteArray.mk (Array.mk [])), .int .i64 0, .int .i64 0, .sl .full 3 [], .sl .full 3 [], .int .i64 0, .int .i64 0, .sl .full 2 [], .int .i64 0, .sl .full 20 []]) [], .mk none none (.store 12 (.t 6) (.t 16)) []])
  (.reg false [.mk (some 17) none (.load none (.t 4)) [], .mk (some 18) none (.faddr (.t 6) 0) [], .mk (some 19) none (.load none (.t 18)) [], .mk none none .stuck []])))
  (.reg false [.mk (some 20) none (.bin .add (.t 13) (.k (.int .i64 1))) [], .mk (some 13) none (.mv (.t 20)) []]))))))) (.seq
  (.reg false [.mk (some 21) none (.mkfn 115 [] [.t 4]) [], .mk (some 7) none (.mv (.t 21)) []])
  (.block 2
  (.loop
  (.block 3 (.seq
  (.reg false [.mk (some 22) none (.faddr (.t 1) 8) [], .mk (some 23) none (.load none (.t 22)) [], .mk (some 24) none (.mv (.t 7)) [], .mk (some 25) none (.call (.k (.fn 118 [] [])) [.t 23, .t 24]) [], .mk (some 8) none (.mv (.t 25)) []]) (.seq (.seq
  (.reg false [.mk (some 26) none (.mv (.t 8)) [], .mk (some 27) none (.bin .lss (.t 26) (.k (.int .i64 0))) []])
  (.cond (.t 27) (.seq
  (.reg false [.mk (some 28) none (.mv (.t 3)) [], .mk (some 2) none (.mv (.t 28)) []]) .ret) .skip)) (.seq
  (.reg false [.mk (some 29) none (.mv (.t 3)) [], .mk (some 30) none (.faddr (.t 1) 8) [], .mk (some 31) none (.load none (.t 30)) [], .mk (some 32) none (.mv (.t 8)) [], .mk (some 33) none (.iaddr 12 (.t 31) (.t 32)) [], .mk (some 34) none (.faddr (.t 33) 0) [], .mk (some 35) none (.load none (.t 34)) [], .mk (some 36) none (.bslice false 1 [.int .i64 0] 1 [(0, .t 35)]) [], .mk (some 37) none (.append 1 8 (.t 29) (.t 36)) [], .mk (some 3) none (.mv (.t 37)) []])
  (.reg true [.mk (some 38) none (.load none (.t 4)) [], .mk (some 39) none (.faddr (.t 1) 8) [], .mk (some 40) none (.load none (.t 39)) [1], .mk (some 41) none (.mv (.t 8)) [], .mk (some 42) none (.iaddr 12 (.t 40) (.t 41)) [2, 3, 1], .mk (some 43) none (.faddr (.t 42) 0) [4, 2, 3, 1], .mk (some 44) none (.load none (.t 43)) [5, 4, 2, 3, 1], .mk none none .stuck [0, 6, 5, 4, 2, 3, 1]])))))))))))

theorem fn51 : FnIs Tryz.prog 51 45 ac51 [.tmp 2] := ⟨⟨Tryz.f51, _, Tryz.func51, rfl, Tryz.ntmps51, by kernel_rfl, by rw [Tryz.results51], by decide⟩⟩

def ac61 : ACode := .seq
  (.reg false [.mk (some 3) none (.mv (.t 0)) [], .mk (some 4) none (.len (.t 3)) [], .mk (some 2) none (.mv (.t 4)) []])
  (.reg false [.mk (some 5) none (.mv (.t 0)) [], .mk (some 6) none (.mv (.t 2)) [], .mk (some 7) none (.mv (.t 2)) [], .mk (some 8) none (.conv .u64 (.t 7)) [], .mk (some 9) none (.call (.k (.fn 137 [] [])) [.t 8]) [], .mk (some 10) none (.call (.k (.fn 136 [] [])) [.t 5, .k (.int .i64 0), .t 6, .t 9]) []])

theorem fn61 : FnIs Tryz.prog 61 11 ac61 [] := ⟨⟨Tryz.f61, _, Tryz.func61, rfl, Tryz.ntmps61, by kernel_rfl, by rw [Tryz.results61], by decide⟩⟩

def ac89 : ACode := .seq
  (.reg false [.mk (some 3) none (.fbox 10 (.t 0)) [], .mk (some 6) none (.mv (.k (.sl .full 11 []))) []]) (.seq
  (.reg false [.mk (some 7) none (.mv (.k (.sl .full 11 []))) []]) (.seq (.seq
  (.reg false [.mk (some 14) none (.faddr (.t 3) 7) [], .mk (some 15) none (.load none (.t 14)) [], .mk (some 16) none (.len (.t 15)) [], .mk (some 17) none (.mv (.k (.int .i64 0))) []])
  (.block 0
  (.loop (.seq
  (.reg false [.mk (some 18) none (.bin .lss (.t 17) (.t 16)) []]) (.seq
  (.cond (.t 18) .skip (.exit 0)) (.seq
  (.block 1 (.seq
  (.reg false [.mk (some 19) none (.iaddr 5 (.t 15) (.t 17)) [], .mk (some 20) none (.load (some 5) (.t 19)) [], .mk (some 9) none (.alloc [.int .i64 0, .int .i64 0, .int .i64 0, .sl .full 3 [], .sl .full 3 []]) [], .mk none none (.store 5 (.t 9) (.t 20)) []]) (.seq (.seq
  (.reg false [.mk (some 22) none (.mv (.t 1)) [], .mk (some 23) none (.faddr (.t 9) 0) [], .mk (some 24) none (.load none (.t 23)) [], .mk (some 25) none (.call (.k (.fn 149 [] [])) [.t 22, .t 24]) [], .mk (some 21) none (.mv (.t 25)) [], .mk (some 26) none (.extr (.t 21) 0) [], .mk (some 27) none (.extr (.t 21) 1) [], .mk (some 10) none (.alloc [.int .i64 0, .sl .full 8 [], .int .i64 0, .int .i64 0, .int .i64 0, .int .i64 0, .int .i64 0, .int .i64 0, .int .i64 0, .int .i64 0, .int .i64 0, .sl .full 3 [], .int .i64 0, .sl .full 3 [], .sl .full 3 [], .sl .full 1 []]) [], .mk none none (.store 16 (.t 10) (.t 26)) [], .mk (some 11) none (.mv (.t 27)) []]) (.seq
  (.reg false [.mk (some 28) none (.mv (.t 11)) []])
  (.cond (.t 28) (.seq
  (.reg false [.mk (some 29) none (.mv (.t 7)) [], .mk (some 30) none (.faddr (.t 10) 2) [], .mk (some 31) none (.load (some 11) (.t 30)) [], .mk (some 32) none (.bslice true 11 [.int .i64 0, .int .i64 0, .int .i64 0, .int .i64 0, .int .i64 0, .int .i64 0, .int .i64 0, .int .i64 0, .int .i64 0, .sl .full 3 [], .int .i64 0] 1 [(0, .t 31)]) [], .mk (some 33) none (.append 11 104 (.t 29) (.t 32)) [], .mk (some 7) none (.mv (.t 33)) []]) (.exit 1)) .skip))) (.seq
  (.reg false [.mk (some 35) none (.mv (.t 2)) [], .mk (some 36) none (.faddr (.t 9) 0) [], .mk (some 37) none (.load none (.t 36)) [], .mk (some 38) none (.call (.k (.fn 110 [] [])) [.t 35, .t 37]) [], .mk (some 34) none (.mv (.t 38)) [], .mk (some 39) none (.extr (.t 34) 0) [], .mk (some 40) none (.extr (.t 34) 1) [], .mk (some 12) none (.alloc [.int .i64 0, .int .i64 0, .int .i64 0, .int .i64 0, .int .i64 0, .int .i64 0, .int .i64 0, .int .i64 0, .int .i64 0, .sl .full 3 [], .int .i64 0]) [], .mk none none (.store 11 (.t 12) (.t 39)) [], .mk (some 13) none (.mv (.t 40)) []]) (.seq (.seq
  (.reg false [.mk (some 41) none (.mv (.t 13)) [], .mk (some 42) none (.un .not (.t 41)) []])
  (.cond (.t 42)
  (.reg false [.mk (some 44) none (.load (some 10) (.t 3)) [], .mk (some 45) none (.faddr (.t 9) 0) [], .mk (some 46) none (.load none (.t 45)) [], .mk (some 47) none (.call (.k (.fn 111 [] [])) [.t 44, .t 46]) [], .mk (some 43) none (.mv (.t 47)) [], .mk (some 48) none (.extr (.t 43) 0) [], .mk (some 49) none (.extr (.t 43) 1) [], .mk none none (.store 11 (.t 12) (.t 48)) []]) .skip))
  (.reg false [.mk (some 50) none (.mv (.t 7)) [], .mk (some 51) none (.load (some 11) (.t 12)) [], .mk (some 52) none (.bslice true 11 [.int .i64 0, .int .i64 0, .int .i64 0, .int .i64 0, .int .i64 0, .int .i64 0, .int .i64 0, .int .i64 0, .int .i64 0, .sl .full 3 [], .int .i64 0] 1 [(0, .t 51)]) [], .mk (some 53) none (.append 11 104 (.t 50) (.t 52)) [], .mk (some 7) none (.mv (.t 53)) []]))))))
  (.reg false [.mk (some 54) none (.bin .add (.t 17) (.k (.int .i64 1))) [], .mk (some 17) none (.mv (.t 54)) []]))))))) (.seq
  (.reg false [.mk (some 55) none (.mv (.t 7)) [], .mk (some 6) none (.mv (.t 55)) []]) .ret)))

theorem fn89 : FnIs Tryz.prog 89 56 ac89 [.tmp 6] := ⟨⟨Tryz.f89, _, Tryz.func89, rfl, Tryz.ntmps89, by kernel_rfl, by rw [Tryz.results89], by decide⟩⟩

def ac92 : ACode := .seq
  (.reg false [.mk (some 1) none (.box 1 (.t 0)) [], .mk (some 2) none (.mv (.k .nilf)) []]) (.seq
  (.reg false [.mk (some 3) none (.mkfn 150 [] [.t 1]) [], .mk (some 2) none (.mv (.t 3)) []]) .ret)

theorem fn92 : FnIs Tryz.prog 92 4 ac92 [.tmp 2] := ⟨⟨Tryz.f92, _, Tryz.func92, rfl, Tryz.ntmps92, by kernel_rfl, by rw [Tryz.results92], by decide⟩⟩

def ac94 : ACode := .seq
  (.reg false [.mk (some 4) none (.mv (.k (.sl .full 3 []))) []]) (.seq
  (.reg false [.mk (some 6) none (.mv (.t 0)) [], .mk (some 7) none (.call (.k (.fn 153 [] [])) [.t 6]) [], .mk (some 5) none (.mv (.t 7)) []]) (.seq
  (.reg false [.mk (some 8) none (.mv (.t 5)) [], .mk (some 9) none (.mv (.t 1)) [], .mk (some 10) none (.call (.k (.fn 154 [] [])) [.t 8, .t 9]) []]) (.seq
  (.reg false [.mk (some 11) none (.mv (.t 5)) [], .mk (some 4) none (.mv (.t 11)) []]) .ret)))

theorem fn94 : FnIs Tryz.prog 94 12 ac94 [.tmp 4] := ⟨⟨Tryz.f94, _, Tryz.func94, rfl, Tryz.ntmps94, by kernel_rfl, by rw [Tryz.results94], by decide⟩⟩

def ac95 : ACode := .seq
  (.reg false [.mk (some 1) none (.box 1 (.t 0)) [], .mk (some 2) none (.mv (.k .nilf)) []]) (.seq
  (.reg false [.mk (some 3) none (.mkfn 155 [] [.t 1]) [], .mk (some 2) none (.mv (.t 3)) []]) .ret)

theorem fn95 : FnIs Tryz.prog 95 4 ac95 [.tmp 2] := ⟨⟨Tryz.f95, _, Tryz.func95, rfl, Tryz.ntmps95, by kernel_rfl, by rw [Tryz.results95], by decide⟩⟩

def ac104 : ACode := .seq
  (.reg false [.mk (some 4) none (.mv (.k (.int .i64 0))) []]) (.seq (.seq
  (.reg false [.mk (some 6) none (.mv (.t 0)) [], .mk (some 7) none (.len (.t 6)) [], .mk (some 8) none (.mv (.k (.int .i64 0))) []])
  (.block 0
  (.loop (.seq
  (.reg false [.mk (some 9) none (.bin .lss (.t 8) (.t 7)) []]) (.seq
  (.cond (.t 9) .skip (.exit 0)) (.seq
  (.block 1 (.seq
  (.reg false [.mk (some 10) none (.mv (.t 8)) [], .mk (some 5) none (.mv (.t 10)) []]) (.seq
  (.reg false [.mk (some 11) none (.mv (.t 1)) [], .mk (some 12) none (.mv (.t 0)) [], .mk (some 13) none (.mv (.t 5)) [], .mk (some 14) none (.iaddr 10 (.t 12) (.t 13)) [], .mk (some 15) none (.load (some 10) (.t 14)) [], .mk (some 16) none (.call (.t 11) [.t 15]) []])
  (.cond (.t 16) (.seq
  (.reg false [.mk (some 17) none (.mv (.t 5)) [], .mk (some 4) none (.mv (.t 17)) []]) .ret) .skip))))
  (.reg false [.mk (some 18) none (.bin .add (.t 8) (.k (.int .i64 1))) [], .mk (some 8) none (.mv (.t 18)) []]))))))) (.seq
  (.reg false [.mk (some 4) none (.mv (.k (.int .i64 (-1)))) []]) .ret))

theorem fn104 : FnIs Tryz.prog 104 19 ac104 [.tmp 4] := ⟨⟨Tryz.f104, _, Tryz.func104, rfl, Tryz.ntmps104, by kernel_rfl, by rw [Tryz.results104], by decide⟩⟩

def ac105 : ACode := .seq
  (.reg false [.mk (some 4) none (.mv (.k (.int .i64 0))) []]) (.seq (.seq
  (.reg false [.mk (some 6) none (.mv (.t 0)) [], .mk (some 7) none (.len (.t 6)) [], .mk (some 8) none (.mv (.k (.int .i64 0))) []])
  (.block 0
  (.loop (.seq
  (.reg false [.mk (some 9) none (.bin .lss (.t 8) (.t 7)) []]) (.seq
  (.cond (.t 9) .skip (.exit 0)) (.seq
  (.block 1 (.seq
  (.reg false [.mk (some 10) none (.mv (.t 8)) [], .mk (some 5) none (.mv (.t 10)) []]) (.seq
  (.reg false [.mk (some 11) none (.mv (.t 1)) [], .mk (some 12) none (.mv (.t 0)) [], .mk (some 13) none (.mv (.t 5)) [], .mk (some 14) none (.iaddr 11 (.t 12) (.t 13)) [], .mk (some 15) none (.load (some 11) (.t 14)) [], .mk (some 16) none (.call (.t 11) [.t 15]) []])
  (.cond (.t 16) (.seq
  (.reg false [.mk (some 17) none (.mv (.t 5)) [], .mk (some 4) none (.mv (.t 17)) []]) .ret) .skip))))
  (.reg false [.mk (some 18) none (.bin .add (.t 8) (.k (.int .i64 1))) [], .mk (some 8) none (.mv (.t 18)) []]))))))) (.seq
  (.reg false [.mk (some 4) none (.mv (.k (.int .i64 (-1)))) []]) .ret))

theorem fn105 : FnIs Tryz.prog 105 19 ac105 [.tmp 4] := ⟨⟨Tryz.f105, _, Tryz.func105, rfl, Tryz.ntmps105, by kernel_rfl, by rw [Tryz.results105], by decide⟩⟩

def ac118 : ACode := .seq
  (.reg false [.mk (some 4) none (.mv (.k (.int .i64 0))) []]) (.seq (.seq
  (.reg false [.mk (some 6) none (.mv (.t 0)) [], .mk (some 7) none (.len (.t 6)) [], .mk (some 8) none (.mv (.k (.int .i64 0))) []])
  (.block 0
  (.loop (.seq
  (.reg false [.mk (some 9) none (.bin .lss (.t 8) (.t 7)) []]) (.seq
  (.cond (.t 9) .skip (.exit 0)) (.seq
  (.block 1 (.seq
  (.reg false [.mk (some 10) none (.mv (.t 8)) [], .mk (some 5) none (.mv (.t 10)) []]) (.seq
  (.reg false [.mk (some 11) none (.mv (.t 1)) [], .mk (some 12) none (.mv (.t 0)) [], .mk (some 13) none (.mv (.t 5)) [], .mk (some 14) none (.iaddr 12 (.t 12) (.t 13)) [], .mk (some 15) none (.load (some 12) (.t 14)) [], .mk (some 16) none (.call (.t 11) [.t 15]) []])
  (.cond (.t 16) (.seq
  (.reg false [.mk (some 17) none (.mv (.t 5)) [], .mk (some 4) none (.mv (.t 17)) []]) .ret) .skip))))
  (.reg false [.mk (some 18) none (.bin .add (.t 8) (.k (.int .i64 1))) [], .mk (some 8) none (.mv (.t 18)) []]))))))) (.seq
  (.reg false [.mk (some 4) none (.mv (.k (.int .i64 (-1)))) []]) .ret))

theorem fn118 : FnIs Tryz.prog 118 19 ac118 [.tmp 4] := ⟨⟨Tryz.f118, _, Tryz.func118, rfl, Tryz.ntmps118, by kernel_rfl, by rw [Tryz.results118], by decide⟩⟩

def ac136 : ACode := .seq
  (.reg false [.mk (some 8) none (.mv (.k (.bool true))) []]) (.seq
  (.reg false [.mk (some 9) none (.mv (.k (.bool true))) []])
  (.block 0
  (.loop
  (.block 1 (.seq
  (.reg false [.mk (some 19) none (.mv (.t 2)) [], .mk (some 20) none (.mv (.t 1)) [], .mk (some 21) none (.bin .sub (.t 19) (.t 20)) [], .mk (some 10) none (.mv (.t 21)) []]) (.seq (.seq
  (.reg false [.mk (some 22) none (.mv (.t 10)) [], .mk (some 23) none (.bin .leq (.t 22) (.k (.int .i64 12))) []])
  (.cond (.t 23) (.seq
  (.reg false [.mk (some 24) none (.mv (.t 0)) [], .mk (some 25) none (.mv (.t 1)) [], .mk (some 26) none (.mv (.t 2)) [], .mk (some 27) none (.call (.k (.fn 191 [] [])) [.t 24, .t 25, .t 26]) []]) .ret) .skip)) (.seq (.seq
  (.reg false [.mk (some 28) none (.mv (.t 3)) [], .mk (some 29) none (.bin .eql (.t 28) (.k (.int .i64 0))) []])
  (.cond (.t 29) (.seq
  (.reg false [.mk (some 30) none (.mv (.t 0)) [], .mk (some 31) none (.mv (.t 1)) [], .mk (some 32) none (.mv (.t 2)) [], .mk (some 33) none (.call (.k (.fn 192 [] [])) [.t 30, .t 31, .t 32]) []]) .ret) .skip)) (.seq (.seq
  (.reg false [.mk (some 34) none (.mv (.t 8)) [], .mk (some 35) none (.un .not (.t 34)) []])
  (.cond (.t 35) (.seq
  (.reg false [.mk (some 36) none (.mv (.t 0)) [], .mk (some 37) none (.mv (.t 1)) [], .mk (some 38) none (.mv (.t 2)) [], .mk (some 39) none (.call (.k (.fn 193 [] [])) [.t 36, .t 37, .t 38]) []])
  (.reg false [.mk (some 40) none (.mv (.t 3)) [], .mk (some 41) none (.bin .sub (.t 40) (.k (.int .i64 1))) [], .mk (some 3) none (.mv (.t 41)) []])) .skip)) (.seq
  (.reg false [.mk (some 43) none (.mv (.t 0)) [], .mk (some 44) none (.mv (.t 1)) [], .mk (some 45) none (.mv (.t 2)) [], .mk (some 46) none (.call (.k (.fn 194 [] [])) [.t 43, .t 44, .t 45]) [], .mk (some 42) none (.mv (.t 46)) [], .mk (some 47) none (.extr (.t 42) 0) [], .mk (some 48) none (.extr (.t 42) 1) [], .mk (some 11) none (.mv (.t 47)) [], .mk (some 12) none (.mv (.t 48)) []]) (.seq (.seq
  (.reg false [.mk (some 49) none (.mv (.t 12)) [], .mk (some 50) none (.bin .eql (.t 49) (.k (.int .i64 2))) []])
  (.cond (.t 50) (.seq
  (.reg false [.mk (some 51) none (.mv (.t 0)) [], .mk (some 52) none (.mv (.t 1)) [], .mk (some 53) none (.mv (.t 2)) [], .mk (some 54) none (.call (.k (.fn 195 [] [])) [.t 51, .t 52, .t 53]) []]) (.seq
  (.reg false [.mk (some 55) none (.mv (.t 2)) [], .mk (some 56) none (.bin .sub (.t 55) (.k (.int .i64 1))) [], .mk (some 57) none (.mv (.t 11)) [], .mk (some 58) none (.mv (.t 1)) [], .mk (some 59) none (.bin .sub (.t 57) (.t 58)) [], .mk (some 60) none (.bin .sub (.t 56) (.t 59)) [], .mk (some 11) none (.mv (.t 60)) []])
  (.reg false [.mk (some 12) none (.mv (.k (.int .i64 1))) []]))) .skip)) (.seq (.seq
  (.reg false [.mk (some 61) none (.mv (.t 8)) [], .mk (some 62) none (.mv (.t 61)) [], .mk (some 63) (some (some 62, true)) (.mv (.t 9)) [], .mk (some 64) none (.pick (.t 62) (.t 63) (.k (.bool false))) [], .mk (some 65) none (.mv (.t 64)) [], .mk (some 66) (some (some 65, true)) (.mv (.t 12)) [], .mk (some 67) (some (some 65, true)) (.bin .eql (.t 66) (.k (.int .i64 1))) [], .mk (some 68) none (.pick (.t 65) (.t 67) (.k (.bool false))) []])
  (.cond (.t 68) (.seq
  (.reg false [.mk (some 69) none (.mv (.t 0)) [], .mk (some 70) none (.mv (.t 1)) [], .mk (some 71) none (.mv (.t 2)) [], .mk (some 72) none (.call (.k (.fn 196 [] [])) [.t 69, .t 70, .t 71]) []])
  (.cond (.t 72) .ret .skip)) .skip)) (.seq (.seq
  (.reg true [.mk (some 73) none (.mv (.t 1)) [], .mk (some 74) none (.bin .gtr (.t 73) (.k (.int .i64 0))) [0], .mk (some 75) none (.mv (.t 74)) [1, 0], .mk (some 76) (some (some 75, true)) (.mv (.t 0)) [2, 1, 0], .mk (some 77) (some (some 75, true)) (.mv (.t 1)) [2, 1, 0], .mk (some 78) (some (some 75, true)) (.bin .sub (.t 77) (.k (.int .i64 1))) [4, 2, 1, 0], .mk (some 79) (some (some 75, true)) (.iaddr 1 (.t 76) (.t 78)) [3, 5, 4, 2, 1, 0], .mk (some 80) (some (some 75, true)) (.load none (.t 79)) [6, 3, 5, 4, 2, 1, 0], .mk (some 81) (some (some 75, true)) (.mv (.t 0)) [2, 1, 0], .mk (some 82) (some (some 75, true)) (.mv (.t 11)) [2, 1, 0], .mk (some 83) (some (some 75, true)) (.iaddr 1 (.t 81) (.t 82)) [8, 9, 2, 1, 0], .mk (some 84) (some (some 75, true)) (.load none (.t 83)) [10, 8, 9, 2, 1, 0], .mk (some 85) (some (some 75, true)) (.call (.k (.fn 197 [] [])) [.t 80, .t 84]) [7, 11, 6, 3, 5, 4, 10, 8, 9, 2, 1, 0], .mk (some 86) (some (some 75, true)) (.un .not (.t 85)) [12, 7, 11, 6, 3, 5, 4, 10, 8, 9, 2, 1, 0], .mk (some 87) none (.pick (.t 75) (.t 86) (.k (.bool false))) [13, 12, 7, 11, 6, 3, 5, 4, 10, 8, 9, 2, 1, 0]])
  (.cond (.t 87) (.seq
  (.reg false [.mk (some 88) none (.mv (.t 0)) [], .mk (some 89) none (.mv (.t 1)) [], .mk (some 90) none (.mv (.t 2)) [], .mk (some 91) none (.mv (.t 11)) [], .mk (some 92) none (.call (.k (.fn 198 [] [])) [.t 88, .t 89, .t 90, .t 91]) [], .mk (some 13) none (.mv (.t 92)) []]) (.seq
  (.reg false [.mk (some 93) none (.mv (.t 13)) [], .mk (some 1) none (.mv (.t 93)) []]) (.exit 1))) .skip)) (.seq
  (.reg false [.mk (some 95) none (.mv (.t 0)) [], .mk (some 96) none (.mv (.t 1)) [], .mk (some 97) none (.mv (.t 2)) [], .mk (some 98) none (.mv (.t 11)) [], .mk (some 99) none (.call (.k (.fn 199 [] [])) [.t 95, .t 96, .t 97, .t 98]) [], .mk (some 94) none (.mv (.t 99)) [], .mk (some 100) none (.extr (.t 94) 0) [], .mk (some 101) none (.extr (.t 94) 1) [], .mk (some 14) none (.mv (.t 100)) [], .mk (some 15) none (.mv (.t 101)) []]) (.seq
  (.reg false [.mk (some 102) none (.mv (.t 15)) [], .mk (some 9) none (.mv (.t 102)) []]) (.seq
  (.reg false [.mk (some 103) none (.mv (.t 14)) [], .mk (some 104) none (.mv (.t 1)) [], .mk (some 105) none (.bin .sub (.t 103) (.t 104)) [], .mk (some 106) none (.mv (.t 2)) [], .mk (some 107) none (.mv (.t 14)) [], .mk (some 108) none (.bin .sub (.t 106) (.t 107)) [], .mk (some 16) none (.mv (.t 105)) [], .mk (some 17) none (.mv (.t 108)) []]) (.seq
  (.reg false [.mk (some 109) none (.mv (.t 10)) [], .mk (some 110) none (.bin .quo (.t 109) (.k (.int .i64 8))) [], .mk (some 18) none (.mv (.t 110)) []]) (.seq
  (.reg false [.mk (some 111) none (.mv (.t 16)) [], .mk (some 112) none (.mv (.t 17)) [], .mk (some 113) none (.bin .lss (.t 111) (.t 112)) []])
  (.cond (.t 113) (.seq
  (.reg false [.mk (some 114) none (.mv (.t 16)) [], .mk (some 115) none (.mv (.t 18)) [], .mk (some 116) none (.bin .geq (.t 114) (.t 115)) [], .mk (some 8) none (.mv (.t 116)) []]) (.seq
  (.reg false [.mk (some 117) none (.mv (.t 0)) [], .mk (some 118) none (.mv (.t 1)) [], .mk (some 119) none (.mv (.t 14)) [], .mk (some 120) none (.mv (.t 3)) [], .mk (some 121) none (.call (.k (.fn 136 [] [])) [.t 117, .t 118, .t 119, .t 120]) []])
  (.reg false [.mk (some 122) none (.mv (.t 14)) [], .mk (some 123) none (.bin .add (.t 122) (.k (.int .i64 1))) [], .mk (some 1) none (.mv (.t 123)) []]))) (.seq
  (.reg false [.mk (some 124) none (.mv (.t 17)) [], .mk (some 125) none (.mv (.t 18)) [], .mk (some 126) none (.bin .geq (.t 124) (.t 125)) [], .mk (some 8) none (.mv (.t 126)) []]) (.seq
  (.reg false [.mk (some 127) none (.mv (.t 0)) [], .mk (some 128) none (.mv (.t 14)) [], .mk (some 129) none (.bin .add (.t 128) (.k (.int .i64 1))) [], .mk (some 130) none (.mv (.t 2)) [], .mk (some 131) none (.mv (.t 3)) [], .mk (some 132) none (.call (.k (.fn 136 [] [])) [.t 127, .t 129, .t 130, .t 131]) []])
  (.reg false [.mk (some 133) none (.mv (.t 14)) [], .mk (some 2) none (.mv (.t 133)) []])))))))))))))))))))))

theorem fn136 : FnIs Tryz.prog 136 134 ac136 [] := ⟨⟨Tryz.f136, _, Tryz.func136, rfl, Tryz.ntmps136, by kernel_rfl, by rw [Tryz.results136], by decide⟩⟩

def ac137 : ACode := .seq
  (.reg false [.mk (some 2) none (.mv (.k (.int .i64 0))) []]) (.seq
  (.cond (.k (.bool false)) (.seq
  (.reg false [.mk (some 3) none (.mv (.t 0)) [], .mk (some 4) none (.conv .u32 (.t 3)) [], .mk (some 5) none (.call (.k (.fn 200 [] [])) [.t 4]) [], .mk (some 2) none (.mv (.t 5)) []]) .ret) .skip) (.seq
  (.reg false [.mk (some 6) none (.mv (.t 0)) [], .mk (some 7) none (.call (.k (.fn 201 [] [])) [.t 6]) [], .mk (some 2) none (.mv (.t 7)) []]) .ret))

theorem fn137 : FnIs Tryz.prog 137 8 ac137 [.tmp 2] := ⟨⟨Tryz.f137, _, Tryz.func137, rfl, Tryz.ntmps137, by kernel_rfl, by rw [Tryz.results137], by decide⟩⟩

def ac191 : ACode := .seq
  (.reg false [.mk (some 8) none (.mv (.t 1)) [], .mk (some 9) none (.bin .add (.t 8) (.k (.int .i64 1))) [], .mk (some 6) none (.mv (.t 9)) []])
  (.block 0
  (.loop (.seq (.seq
  (.reg false [.mk (some 10) none (.mv (.t 6)) [], .mk (some 11) none (.mv (.t 2)) [], .mk (some 12) none (.bin .lss (.t 10) (.t 11)) []])
  (.cond (.t 12) .skip (.exit 0))) (.seq
  (.block 1 (.seq
  (.reg false [.mk (some 15) none (.mv (.t 6)) [], .mk (some 7) none (.mv (.t 15)) []])
  (.block 2
  (.loop (.seq (.seq
  (.reg true [.mk (some 16) none (.mv (.t 7)) [], .mk (some 17) none (.mv (.t 1)) [], .mk (some 18) none (.bin .gtr (.t 16) (.t 17)) [0, 1], .mk (some 19) none (.mv (.t 18)) [2, 0, 1], .mk (some 20) (some (some 19, true)) (.mv (.t 0)) [3, 2, 0, 1], .mk (some 21) (some (some 19, true)) (.mv (.t 7)) [3, 2, 0, 1], .mk (some 22) (some (some 19, true)) (.iaddr 1 (.t 20) (.t 21)) [4, 5, 3, 2, 0, 1], .mk (some 23) (some (some 19, true)) (.load none (.t 22)) [6, 4, 5, 3, 2, 0, 1], .mk (some 24) (some (some 19, true)) (.mv (.t 0)) [3, 2, 0, 1], .mk (some 25) (some (some 19, true)) (.mv (.t 7)) [3, 2, 0, 1], .mk (some 26) (some (some 19, true)) (.bin .sub (.t 25) (.k (.int .i64 1))) [9, 3, 2, 0, 1], .mk (some 27) (some (some 19, true)) (.iaddr 1 (.t 24) (.t 26)) [8, 10, 9, 3, 2, 0, 1], .mk (some 28) (some (some 19, true)) (.load none (.t 27)) [11, 8, 10, 9, 3, 2, 0, 1], .mk (some 29) (some (some 19, true)) (.call (.k (.fn 197 [] [])) [.t 23, .t 28]) [7, 12, 6, 4, 5, 11, 8, 10, 9, 3, 2, 0, 1], .mk (some 30) none (.pick (.t 19) (.t 29) (.k (.bool false))) [13, 7, 12, 6, 4, 5, 11, 8, 10, 9, 3, 2, 0, 1]])
  (.cond (.t 30) .skip (.exit 2))) (.seq
  (.block 3
  (.reg true [.mk (some 33) none (.mv (.t 0)) [], .mk (some 34) none (.mv (.t 7)) [], .mk (some 35) none (.mv (.t 0)) [], .mk (some 36) none (.mv (.t 7)) [], .mk (some 37) none (.bin .sub (.t 36) (.k (.int .i64 1))) [3], .mk (some 38) none (.mv (.t 0)) [], .mk (some 39) none (.mv (.t 7)) [], .mk (some 40) none (.bin .sub (.t 39) (.k (.int .i64 1))) [6], .mk (some 41) none (.iaddr 1 (.t 38) (.t 40)) [5, 7, 6], .mk (some 42) none (.load none (.t 41)) [8, 5, 7, 6], .mk (some 43) none (.mv (.t 0)) [], .mk (some 44) none (.mv (.t 7)) [], .mk (some 45) none (.iaddr 1 (.t 43) (.t 44)) [10, 11], .mk (some 46) none (.load none (.t 45)) [12, 10, 11], .mk (some 47) none (.iaddr 1 (.t 33) (.t 34)) [0, 1, 9, 13, 8, 5, 7, 6, 12, 10, 11], .mk none none (.store 1 (.t 47) (.t 42)) [14, 0, 1, 9, 13, 8, 5, 7, 6, 12, 10, 11], .mk (some 48) none (.iaddr 1 (.t 35) (.t 37)) [2, 4, 15, 3, 14, 0, 1, 9, 13, 8, 5, 7, 6, 12, 10, 11], .mk none none (.store 1 (.t 48) (.t 46)) [16, 2, 4, 15, 3, 14, 0, 1, 9, 13, 8, 5, 7, 6, 12, 10, 11]]))
  (.reg false [.mk (some 31) none (.mv (.t 7)) [], .mk (some 32) none (.bin .sub (.t 31) (.k (.int .i64 1))) [], .mk (some 7) none (.mv (.t 32)) []])))))))
  (.reg false [.mk (some 13) none (.mv (.t 6)) [], .mk (some 14) none (.bin .add (.t 13) (.k (.int .i64 1))) [], .mk (some 6) none (.mv (.t 14)) []])))))

theorem fn191 : FnIs Tryz.prog 191 49 ac191 [] := ⟨⟨Tryz.f191, _, Tryz.func191, rfl, Tryz.ntmps191, by kernel_rfl, by rw [Tryz.results191], by decide⟩⟩

def ac153 : ACode := .seq
  (.reg false [.mk (some 2) none (.mv (.k (.sl .full 3 []))) []]) (.seq
  (.reg false [.mk (some 3) none (.mv (.t 0)) [], .mk (some 4) none (.call (.k (.fn 204 [] [])) [.k (.sl .full 3 []), .t 3]) [], .mk (some 2) none (.mv (.t 4)) []]) .ret)

theorem fn153 : FnIs Tryz.prog 153 5 ac153 [.tmp 2] := ⟨⟨Tryz.f153, _, Tryz.func153, rfl, Tryz.ntmps153, by kernel_rfl, by rw [Tryz.results153], by decide⟩⟩

def ac154 : ACode := .seq
  (.reg false [.mk (some 5) none (.mv (.t 0)) [], .mk (some 6) none (.len (.t 5)) [], .mk (some 4) none (.mv (.t 6)) []])
  (.reg false [.mk (some 7) none (.mv (.t 0)) [], .mk (some 8) none (.mv (.t 4)) [], .mk (some 9) none (.mv (.t 4)) [], .mk (some 10) none (.conv .u64 (.t 9)) [], .mk (some 11) none (.call (.k (.fn 137 [] [])) [.t 10]) [], .mk (some 12) none (.mv (.t 1)) [], .mk (some 13) none (.call (.k (.fn 205 [] [])) [.t 7, .k (.int .i64 0), .t 8, .t 11, .t 12]) []])

theorem fn154 : FnIs Tryz.prog 154 14 ac154 [] := ⟨⟨Tryz.f154, _, Tryz.func154, rfl, Tryz.ntmps154, by kernel_rfl, by rw [Tryz.results154], by decide⟩⟩

def ac155 : ACode := .seq
  (.reg false [.mk (some 4) none (.load none (.t 1)) [], .mk (some 5) none (.rangem (.t 4)) []])
  (.block 0
  (.loop (.seq
  (.reg false [.mk (some 6) none (.nextm (.t 5)) [], .mk (some 7) none (.extr (.t 6) 0) []]) (.seq
  (.cond (.t 7) .skip (.exit 0))
  (.block 1 (.seq
  (.reg false [.mk (some 8) none .stuck [], .mk (some 9) none (.extr (.t 8) 0) [], .mk (some 3) none (.alloc [.int .i64 0, .int .i64 0, .int .i64 0]) [], .mk none none (.store 3 (.t 3) (.t 9)) []]) (.seq
  (.reg false [.mk (some 10) none (.mv (.t 0)) [], .mk (some 11) none (.load (some 3) (.t 3)) [], .mk (some 12) none (.call (.t 10) [.t 11]) [], .mk (some 13) none (.un .not (.t 12)) []])
  (.cond (.t 13) .ret .skip))))))))

theorem fn155 : FnIs Tryz.prog 155 14 ac155 [] := ⟨⟨Tryz.f155, _, Tryz.func155, rfl, Tryz.ntmps155, by kernel_rfl, by rw [Tryz.results155], by decide⟩⟩

def ac200 : ACode := .seq
  (.reg false [.mk (some 2) none (.mv (.k (.int .i64 0))) []]) (.seq (.seq
  (.reg false [.mk (some 3) none (.mv (.t 0)) [], .mk (some 4) none (.bin .geq (.t 3) (.k (.int .u32 65536))) []])
  (.cond (.t 4) (.seq
  (.reg false [.mk (some 5) none (.mv (.t 0)) [], .mk (some 6) none (.bin .shr (.t 5) (.k (.int .u64 16))) [], .mk (some 0) none (.mv (.t 6)) []])
  (.reg false [.mk (some 2) none (.mv (.k (.int .i64 16))) []])) .skip)) (.seq (.seq
  (.reg false [.mk (some 7) none (.mv (.t 0)) [], .mk (some 8) none (.bin .geq (.t 7) (.k (.int .u32 256))) []])
  (.cond (.t 8) (.seq
  (.reg false [.mk (some 9) none (.mv (.t 0)) [], .mk (some 10) none (.bin .shr (.t 9) (.k (.int .u64 8))) [], .mk (some 0) none (.mv (.t 10)) []])
  (.reg false [.mk (some 11) none (.mv (.t 2)) [], .mk (some 12) none (.bin .add (.t 11) (.k (.int .i64 8))) [], .mk (some 2) none (.mv (.t 12)) []])) .skip)) (.seq
  (.reg false [.mk (some 13) none (.mv (.t 2)) [], .mk (some 14) none (.mv (.t 0)) [], .mk (some 15) none (.conv .u8 (.t 14)) [], .mk (some 16) none (.sidx (.k (.str (ByteArray.mk (Array.mk [0, 1, 2, 2, 3, 3, 3, 3, 4, 4, 4, 4, 4, 4, 4, 4, 5, 5, 5, 5, 5, 5, 5, 5, 5, 5, 5, 5, 5, 5, 5, 5, 6, 6, 6, 6, 6, 6, 6, 6, 6, 6, 6, 6, 6, 6, 6, 6, 6, 6, 6, 6, 6, 6, 6, 6, 6, 6, 6, 6, 6, 6, 6, 6, 7, 7, 7, 7, 7, 7, 7, 7, 7, 7, 7, 7, 7, 7, 7, 7, 7, 7, 7, 7, 7, 7, 7, 7, 7, 7, 7, 7, 7, 7, 7, 7, 7, 7, 7, 7, 7, 7, 7, 7, 7, 7, 7, 7, 7, 7, 7, 7, 7, 7, 7, 7, 7, 7, 7, 7, 7, 7, 7, 7, 7, 7, 7, 7, 8, 8, 8, 8, 8, 8, 8, 8, 8, 8, 8, 8, 8, 8, 8, 8, 8, 8, 8, 8, 8, 8, 8, 8, 8, 8, 8, 8, 8, 8, 8, 8, 8, 8, 8, 8, 8, 8, 8, 8, 8, 8, 8, 8, 8, 8, 8, 8, 8, 8, 8, 8, 8, 8, 8, 8, 8, 8, 8, 8, 8, 8, 8, 8, 8, 8, 8, 8, 8, 8, 8, 8, 8, 8, 8, 8, 8, 8, 8, 8, 8, 8, 8, 8, 8, 8, 8, 8, 8, 8, 8, 8, 8, 8, 8, 8, 8, 8, 8, 8, 8, 8, 8, 8, 8, 8, 8, 8, 8, 8, 8, 8, 8, 8, 8, 8, 8, 8, 8, 8, 8, 8, 8, 8, 8, 8, 8, 8])))) (.t 15)) [], .mk (some 17) none (.conv .i64 (.t 16)) [], .mk (some 18) none (.bin .add (.t 13) (.t 17)) [], .mk (some 2) none (.mv (.t 18)) []]) .ret)))

theorem fn200 : FnIs Tryz.prog 200 19 ac200 [.tmp 2] := ⟨⟨Tryz.f200, _, Tryz.func200, rfl, Tryz.ntmps200, by kernel_rfl, by rw [Tryz.results200], by decide⟩⟩

def ac201 : ACode := .seq
  (.reg false [.mk (some 2) none (.mv (.k (.int .i64 0))) []]) (.seq (.seq
  (.reg false [.mk (some 3) none (.mv (.t 0)) [], .mk (some 4) none (.bin .geq (.t 3) (.k (.int .u64 4294967296))) []])
  (.cond (.t 4) (.seq
  (.reg false [.mk (some 5) none (.mv (.t 0)) [], .mk (some 6) none (.bin .shr (.t 5) (.k (.int .u64 32))) [], .mk (some 0) none (.mv (.t 6)) []])
  (.reg false [.mk (some 2) none (.mv (.k (.int .i64 32))) []])) .skip)) (.seq (.seq
  (.reg false [.mk (some 7) none (.mv (.t 0)) [], .mk (some 8) none (.bin .geq (.t 7) (.k (.int .u64 65536))) []])
  (.cond (.t 8) (.seq
  (.reg false [.mk (some 9) none (.mv (.t 0)) [], .mk (some 10) none (.bin .shr (.t 9) (.k (.int .u64 16))) [], .mk (some 0) none (.mv (.t 10)) []])
  (.reg false [.mk (some 11) none (.mv (.t 2)) [], .mk (some 12) none (.bin .add (.t 11) (.k (.int .i64 16))) [], .mk (some 2) none (.mv (.t 12)) []])) .skip)) (.seq (.seq
  (.reg false [.mk (some 13) none (.mv (.t 0)) [], .mk (some 14) none (.bin .geq (.t 13) (.k (.int .u64 256))) []])
  (.cond (.t 14) (.seq
  (.reg false [.mk (some 15) none (.mv (.t 0)) [], .mk (some 16) none (.bin .shr (.t 15) (.k (.int .u64 8))) [], .mk (some 0) none (.mv (.t 16)) []])
  (.reg false [.mk (some 17) none (.mv (.t 2)) [], .mk (some 18) none (.bin .add (.t 17) (.k (.int .i64 8))) [], .mk (some 2) none (.mv (.t 18)) []])) .skip)) (.seq
  (.reg false [.mk (some 19) none (.mv (.t 2)) [], .mk (some 20) none (.mv (.t 0)) [], .mk (some 21) none (.conv .u8 (.t 20)) [], .mk (some 22) none (.sidx (.k (.str (ByteArray.mk (Array.mk [0, 1, 2, 2, 3, 3, 3, 3, 4, 4, 4, 4, 4, 4, 4, 4, 5, 5, 5, 5, 5, 5, 5, 5, 5, 5, 5, 5, 5, 5, 5, 5, 6, 6, 6, 6, 6, 6, 6, 6, 6, 6, 6, 6, 6, 6, 6, 6, 6, 6, 6, 6, 6, 6, 6, 6, 6, 6, 6, 6, 6, 6, 6, 6, 7, 7, 7, 7, 7, 7, 7, 7, 7, 7, 7, 7, 7, 7, 7, 7, 7, 7, 7, 7, 7, 7, 7, 7, 7, 7, 7, 7, 7, 7, 7, 7, 7, 7, 7, 7, 7, 7, 7, 7, 7, 7, 7, 7, 7, 7, 7, 7, 7, 7, 7, 7, 7, 7, 7, 7, 7, 7, 7, 7, 7, 7, 7, 7, 8, 8, 8, 8, 8, 8, 8, 8, 8, 8, 8, 8, 8, 8, 8, 8, 8, 8, 8, 8, 8, 8, 8, 8, 8, 8, 8, 8, 8, 8, 8, 8, 8, 8, 8, 8, 8, 8, 8, 8, 8, 8, 8, 8, 8, 8, 8, 8, 8, 8, 8, 8, 8, 8, 8, 8, 8, 8, 8, 8, 8, 8, 8, 8, 8, 8, 8, 8, 8, 8, 8, 8, 8, 8, 8, 8, 8, 8, 8, 8, 8, 8, 8, 8, 8, 8, 8, 8, 8, 8, 8, 8, 8, 8, 8, 8, 8, 8, 8, 8, 8, 8, 8, 8, 8, 8, 8, 8, 8, 8, 8, 8, 8, 8, 8, 8, 8, 8, 8, 8, 8, 8, 8, 8, 8, 8, 8, 8])))) (.t 21)) [], .mk (some 23) none (.conv .i64 (.t 22)) [], .mk (some 24) none (.bin .add (.t 19) (.t 23)) [], .mk (some 2) none (.mv (.t 24)) []]) .ret))))

theorem fn201 : FnIs Tryz.prog 201 25 ac201 [.tmp 2] := ⟨⟨Tryz.f201, _, Tryz.func201, rfl, Tryz.ntmps201, by kernel_rfl, by rw [Tryz.results201], by decide⟩⟩

noncomputable def ac204 : ACode := .seq
  (.reg false [.mk (some 2) none (.box 1 (.t 0)) [], .mk (some 4) none (.mv (.k (.sl .full 3 []))) []]) (.seq (.seq
  (.reg false [.mk (some 6) none (.mv (.t 1)) []])
  (.block 0
  (.rangeF 13 (.t 6) [7]
  (.reg false [.mk (some 5) none (.alloc [.int .i64 0, .int .i64 0, .int .i64 0]) [], .mk none none (.store 3 (.t 5) (.t 7)) []])
  (.block 1
  (.reg false [.mk (some 8) none (.load none (.t 2)) [], .mk (some 9) none (.load (some 3) (.t 5)) [], .mk (some 10) none (.bslice true 3 [.int .i64 0, .int .i64 0, .int .i64 0] 1 [(0, .t 9)]) [], .mk (some 11) none (.append 3 24 (.t 8) (.t 10)) [], .mk none none (.store 1 (.t 2) (.t 11)) []])) (rfCodes Tryz.f204 0).1 (rfCodes Tryz.f204 0).2))) (.seq
  (.reg false [.mk (some 12) none (.load none (.t 2)) [], .mk (some 4) none (.mv (.t 12)) []]) .ret))

theorem fn204 : FnIs Tryz.prog 204 13 ac204 [.tmp 4] := ⟨⟨Tryz.f204, _, Tryz.func204, rfl, Tryz.ntmps204, by kernel_rfl, by rw [Tryz.results204], by decide⟩⟩

def ac205 : ACode := .seq
  (.reg false [.mk (some 10) none (.mv (.k (.bool true))) []]) (.seq
  (.reg false [.mk (some 11) none (.mv (.k (.bool true))) []])
  (.block 0
  (.loop
  (.block 1 (.seq
  (.reg false [.mk (some 21) none (.mv (.t 2)) [], .mk (some 22) none (.mv (.t 1)) [], .mk (some 23) none (.bin .sub (.t 21) (.t 22)) [], .mk (some 12) none (.mv (.t 23)) []]) (.seq (.seq
  (.reg false [.mk (some 24) none (.mv (.t 12)) [], .mk (some 25) none (.bin .leq (.t 24) (.k (.int .i64 12))) []])
  (.cond (.t 25) (.seq
  (.reg false [.mk (some 26) none (.mv (.t 0)) [], .mk (some 27) none (.mv (.t 1)) [], .mk (some 28) none (.mv (.t 2)) [], .mk (some 29) none (.mv (.t 4)) [], .mk (some 30) none (.call (.k (.fn 248 [] [])) [.t 26, .t 27, .t 28, .t 29]) []]) .ret) .skip)) (.seq (.seq
  (.reg false [.mk (some 31) none (.mv (.t 3)) [], .mk (some 32) none (.bin .eql (.t 31) (.k (.int .i64 0))) []])
  (.cond (.t 32) (.seq
  (.reg false [.mk (some 33) none (.mv (.t 0)) [], .mk (some 34) none (.mv (.t 1)) [], .mk (some 35) none (.mv (.t 2)) [], .mk (some 36) none (.mv (.t 4)) [], .mk (some 37) none (.call (.k (.fn 249 [] [])) [.t 33, .t 34, .t 35, .t 36]) []]) .ret) .skip)) (.seq (.seq
  (.reg false [.mk (some 38) none (.mv (.t 10)) [], .mk (some 39) none (.un .not (.t 38)) []])
  (.cond (.t 39) (.seq
  (.reg false [.mk (some 40) none (.mv (.t 0)) [], .mk (some 41) none (.mv (.t 1)) [], .mk (some 42) none (.mv (.t 2)) [], .mk (some 43) none (.mv (.t 4)) [], .mk (some 44) none (.call (.k (.fn 250 [] [])) [.t 40, .t 41, .t 42, .t 43]) []])
  (.reg false [.mk (some 45) none (.mv (.t 3)) [], .mk (some 46) none (.bin .sub (.t 45) (.k (.int .i64 1))) [], .mk (some 3) none (.mv (.t 46)) []])) .skip)) (.seq
  (.reg false [.mk (some 48) none (.mv (.t 0)) [], .mk (some 49) none (.mv (.t 1)) [], .mk (some 50) none (.mv (.t 2)) [], .mk (some 51) none (.mv (.t 4)) [], .mk (some 52) none (.call (.k (.fn 251 [] [])) [.t 48, .t 49, .t 50, .t 51]) [], .mk (some 47) none (.mv (.t 52)) [], .mk (some 53) none (.extr (.t 47) 0) [], .mk (some 54) none (.extr (.t 47) 1) [], .mk (some 13) none (.mv (.t 53)) [], .mk (some 14) none (.mv (.t 54)) []]) (.seq (.seq
  (.reg false [.mk (some 55) none (.mv (.t 14)) [], .mk (some 56) none (.bin .eql (.t 55) (.k (.int .i64 2))) []])
  (.cond (.t 56) (.seq
  (.reg false [.mk (some 57) none (.mv (.t 0)) [], .mk (some 58) none (.mv (.t 1)) [], .mk (some 59) none (.mv (.t 2)) [], .mk (some 60) none (.mv (.t 4)) [], .mk (some 61) none (.call (.k (.fn 252 [] [])) [.t 57, .t 58, .t 59, .t 60]) []]) (.seq
  (.reg false [.mk (some 62) none (.mv (.t 2)) [], .mk (some 63) none (.bin .sub (.t 62) (.k (.int .i64 1))) [], .mk (some 64) none (.mv (.t 13)) [], .mk (some 65) none (.mv (.t 1)) [], .mk (some 66) none (.bin .sub (.t 64) (.t 65)) [], .mk (some 67) none (.bin .sub (.t 63) (.t 66)) [], .mk (some 13) none (.mv (.t 67)) []])
  (.reg false [.mk (some 14) none (.mv (.k (.int .i64 1))) []]))) .skip)) (.seq (.seq
  (.reg false [.mk (some 68) none (.mv (.t 10)) [], .mk (some 69) none (.mv (.t 68)) [], .mk (some 70) (some (some 69, true)) (.mv (.t 11)) [], .mk (some 71) none (.pick (.t 69) (.t 70) (.k (.bool false))) [], .mk (some 72) none (.mv (.t 71)) [], .mk (some 73) (some (some 72, true)) (.mv (.t 14)) [], .mk (some 74) (some (some 72, true)) (.bin .eql (.t 73) (.k (.int .i64 1))) [], .mk (some 75) none (.pick (.t 72) (.t 74) (.k (.bool false))) []])
  (.cond (.t 75) (.seq
  (.reg false [.mk (some 76) none (.mv (.t 0)) [], .mk (some 77) none (.mv (.t 1)) [], .mk (some 78) none (.mv (.t 2)) [], .mk (some 79) none (.mv (.t 4)) [], .mk (some 80) none (.call (.k (.fn 253 [] [])) [.t 76, .t 77, .t 78, .t 79]) []])
  (.cond (.t 80) .ret .skip)) .skip)) (.seq (.seq
  (.reg true [.mk (some 81) none (.mv (.t 1)) [], .mk (some 82) none (.bin .gtr (.t 81) (.k (.int .i64 0))) [0], .mk (some 83) none (.mv (.t 82)) [1, 0], .mk (some 84) (some (some 83, true)) (.mv (.t 4)) [2, 1, 0], .mk (some 85) (some (some 83, true)) (.mv (.t 0)) [2, 1, 0], .mk (some 86) (some (some 83, true)) (.mv (.t 1)) [2, 1, 0], .mk (some 87) (some (some 83, true)) (.bin .sub (.t 86) (.k (.int .i64 1))) [5, 2, 1, 0], .mk (some 88) (some (some 83, true)) (.iaddr 3 (.t 85) (.t 87)) [4, 6, 5, 2, 1, 0], .mk (some 89) (some (some 83, true)) (.load (some 3) (.t 88)) [7, 4, 6, 5, 2, 1, 0], .mk (some 90) (some (some 83, true)) (.mv (.t 0)) [2, 1, 0], .mk (some 91) (some (some 83, true)) (.mv (.t 13)) [2, 1, 0], .mk (some 92) (some (some 83, true)) (.iaddr 3 (.t 90) (.t 91)) [9, 10, 2, 1, 0], .mk (some 93) (some (some 83, true)) (.load (some 3) (.t 92)) [11, 9, 10, 2, 1, 0], .mk (some 94) (some (some 83, true)) (.call (.t 84) [.t 89, .t 93]) [3, 8, 12, 7, 4, 6, 5, 11, 9, 10, 2, 1, 0], .mk (some 95) (some (some 83, true)) (.bin .lss (.t 94) (.k (.int .i64 0))) [13, 3, 8, 12, 7, 4, 6, 5, 11, 9, 10, 2, 1, 0], .mk (some 96) (some (some 83, true)) (.un .not (.t 95)) [14, 13, 3, 8, 12, 7, 4, 6, 5, 11, 9, 10, 2, 1, 0], .mk (some 97) none (.pick (.t 83) (.t 96) (.k (.bool false))) [15, 14, 13, 3, 8, 12, 7, 4, 6, 5, 11, 9, 10, 2, 1, 0]])
  (.cond (.t 97) (.seq
  (.reg false [.mk (some 98) none (.mv (.t 0)) [], .mk (some 99) none (.mv (.t 1)) [], .mk (some 100) none (.mv (.t 2)) [], .mk (some 101) none (.mv (.t 13)) [], .mk (some 102) none (.mv (.t 4)) [], .mk (some 103) none (.call (.k (.fn 254 [] [])) [.t 98, .t 99, .t 100, .t 101, .t 102]) [], .mk (some 15) none (.mv (.t 103)) []]) (.seq
  (.reg false [.mk (some 104) none (.mv (.t 15)) [], .mk (some 1) none (.mv (.t 104)) []]) (.exit 1))) .skip)) (.seq
  (.reg false [.mk (some 106) none (.mv (.t 0)) [], .mk (some 107) none (.mv (.t 1)) [], .mk (some 108) none (.mv (.t 2)) [], .mk (some 109) none (.mv (.t 13)) [], .mk (some 110) none (.mv (.t 4)) [], .mk (some 111) none (.call (.k (.fn 255 [] [])) [.t 106, .t 107, .t 108, .t 109, .t 110]) [], .mk (some 105) none (.mv (.t 111)) [], .mk (some 112) none (.extr (.t 105) 0) [], .mk (some 113) none (.extr (.t 105) 1) [], .mk (some 16) none (.mv (.t 112)) [], .mk (some 17) none (.mv (.t 113)) []]) (.seq
  (.reg false [.mk (some 114) none (.mv (.t 17)) [], .mk (some 11) none (.mv (.t 114)) []]) (.seq
  (.reg false [.mk (some 115) none (.mv (.t 16)) [], .mk (some 116) none (.mv (.t 1)) [], .mk (some 117) none (.bin .sub (.t 115) (.t 116)) [], .mk (some 118) none (.mv (.t 2)) [], .mk (some 119) none (.mv (.t 16)) [], .mk (some 120) none (.bin .sub (.t 118) (.t 119)) [], .mk (some 18) none (.mv (.t 117)) [], .mk (some 19) none (.mv (.t 120)) []]) (.seq
  (.reg false [.mk (some 121) none (.mv (.t 12)) [], .mk (some 122) none (.bin .quo (.t 121) (.k (.int .i64 8))) [], .mk (some 20) none (.mv (.t 122)) []]) (.seq
  (.reg false [.mk (some 123) none (.mv (.t 18)) [], .mk (some 124) none (.mv (.t 19)) [], .mk (some 125) none (.bin .lss (.t 123) (.t 124)) []])
  (.cond (.t 125) (.seq
  (.reg false [.mk (some 126) none (.mv (.t 18)) [], .mk (some 127) none (.mv (.t 20)) [], .mk (some 128) none (.bin .geq (.t 126) (.t 127)) [], .mk (some 10) none (.mv (.t 128)) []]) (.seq
  (.reg false [.mk (some 129) none (.mv (.t 0)) [], .mk (some 130) none (.mv (.t 1)) [], .mk (some 131) none (.mv (.t 16)) [], .mk (some 132) none (.mv (.t 3)) [], .mk (some 133) none (.mv (.t 4)) [], .mk (some 134) none (.call (.k (.fn 205 [] [])) [.t 129, .t 130, .t 131, .t 132, .t 133]) []])
  (.reg false [.mk (some 135) none (.mv (.t 16)) [], .mk (some 136) none (.bin .add (.t 135) (.k (.int .i64 1))) [], .mk (some 1) none (.mv (.t 136)) []]))) (.seq
  (.reg false [.mk (some 137) none (.mv (.t 19)) [], .mk (some 138) none (.mv (.t 20)) [], .mk (some 139) none (.bin .geq (.t 137) (.t 138)) [], .mk (some 10) none (.mv (.t 139)) []]) (.seq
  (.reg false [.mk (some 140) none (.mv (.t 0)) [], .mk (some 141) none (.mv (.t 16)) [], .mk (some 142) none (.bin .add (.t 141) (.k (.int .i64 1))) [], .mk (some 143) none (.mv (.t 2)) [], .mk (some 144) none (.mv (.t 3)) [], .mk (some 145) none (.mv (.t 4)) [], .mk (some 146) none (.call (.k (.fn 205 [] [])) [.t 140, .t 142, .t 143, .t 144, .t 145]) []])
  (.reg false [.mk (some 147) none (.mv (.t 16)) [], .mk (some 2) none (.mv (.t 147)) []])))))))))))))))))))))

theorem fn205 : FnIs Tryz.prog 205 148 ac205 [] := ⟨⟨Tryz.f205, _, Tryz.func205, rfl, Tryz.ntmps205, by kernel_rfl, by rw [Tryz.results205], by decide⟩⟩

def ac248 : ACode := .seq
  (.reg false [.mk (some 10) none (.mv (.t 1)) [], .mk (some 11) none (.bin .add (.t 10) (.k (.int .i64 1))) [], .mk (some 8) none (.mv (.t 11)) []])
  (.block 0
  (.loop (.seq (.seq
  (.reg false [.mk (some 12) none (.mv (.t 8)) [], .mk (some 13) none (.mv (.t 2)) [], .mk (some 14) none (.bin .lss (.t 12) (.t 13)) []])
  (.cond (.t 14) .skip (.exit 0))) (.seq
  (.block 1 (.seq
  (.reg false [.mk (some 17) none (.mv (.t 8)) [], .mk (some 9) none (.mv (.t 17)) []])
  (.block 2
  (.loop (.seq (.seq
  (.reg true [.mk (some 18) none (.mv (.t 9)) [], .mk (some 19) none (.mv (.t 1)) [], .mk (some 20) none (.bin .gtr (.t 18) (.t 19)) [0, 1], .mk (some 21) none (.mv (.t 20)) [2, 0, 1], .mk (some 22) (some (some 21, true)) (.mv (.t 3)) [3, 2, 0, 1], .mk (some 23) (some (some 21, true)) (.mv (.t 0)) [3, 2, 0, 1], .mk (some 24) (some (some 21, true)) (.mv (.t 9)) [3, 2, 0, 1], .mk (some 25) (some (some 21, true)) (.iaddr 3 (.t 23) (.t 24)) [5, 6, 3, 2, 0, 1], .mk (some 26) (some (some 21, true)) (.load (some 3) (.t 25)) [7, 5, 6, 3, 2, 0, 1], .mk (some 27) (some (some 21, true)) (.mv (.t 0)) [3, 2, 0, 1], .mk (some 28) (some (some 21, true)) (.mv (.t 9)) [3, 2, 0, 1], .mk (some 29) (some (some 21, true)) (.bin .sub (.t 28) (.k (.int .i64 1))) [10, 3, 2, 0, 1], .mk (some 30) (some (some 21, true)) (.iaddr 3 (.t 27) (.t 29)) [9, 11, 10, 3, 2, 0, 1], .mk (some 31) (some (some 21, true)) (.load (some 3) (.t 30)) [12, 9, 11, 10, 3, 2, 0, 1], .mk (some 32) (some (some 21, true)) (.call (.t 22) [.t 26, .t 31]) [4, 8, 13, 7, 5, 6, 12, 9, 11, 10, 3, 2, 0, 1], .mk (some 33) (some (some 21, true)) (.bin .lss (.t 32) (.k (.int .i64 0))) [14, 4, 8, 13, 7, 5, 6, 12, 9, 11, 10, 3, 2, 0, 1], .mk (some 34) none (.pick (.t 21) (.t 33) (.k (.bool false))) [15, 14, 4, 8, 13, 7, 5, 6, 12, 9, 11, 10, 3, 2, 0, 1]])
  (.cond (.t 34) .skip (.exit 2))) (.seq
  (.block 3
  (.reg true [.mk (some 37) none (.mv (.t 0)) [], .mk (some 38) none (.mv (.t 9)) [], .mk (some 39) none (.mv (.t 0)) [], .mk (some 40) none (.mv (.t 9)) [], .mk (some 41) none (.bin .sub (.t 40) (.k (.int .i64 1))) [3], .mk (some 42) none (.mv (.t 0)) [], .mk (some 43) none (.mv (.t 9)) [], .mk (some 44) none (.bin .sub (.t 43) (.k (.int .i64 1))) [6], .mk (some 45) none (.iaddr 3 (.t 42) (.t 44)) [5, 7, 6], .mk (some 46) none (.load (some 3) (.t 45)) [8, 5, 7, 6], .mk (some 47) none (.mv (.t 0)) [], .mk (some 48) none (.mv (.t 9)) [], .mk (some 49) none (.iaddr 3 (.t 47) (.t 48)) [10, 11], .mk (some 50) none (.load (some 3) (.t 49)) [12, 10, 11], .mk (some 51) none (.iaddr 3 (.t 37) (.t 38)) [0, 1, 9, 13, 8, 5, 7, 6, 12, 10, 11], .mk none none (.store 3 (.t 51) (.t 46)) [14, 0, 1, 9, 13, 8, 5, 7, 6, 12, 10, 11], .mk (some 52) none (.iaddr 3 (.t 39) (.t 41)) [2, 4, 15, 3, 14, 0, 1, 9, 13, 8, 5, 7, 6, 12, 10, 11], .mk none none (.store 3 (.t 52) (.t 50)) [16, 2, 4, 15, 3, 14, 0, 1, 9, 13, 8, 5, 7, 6, 12, 10, 11]]))
  (.reg false [.mk (some 35) none (.mv (.t 9)) [], .mk (some 36) none (.bin .sub (.t 35) (.k (.int .i64 1))) [], .mk (some 9) none (.mv (.t 36)) []])))))))
  (.reg false [.mk (some 15) none (.mv (.t 8)) [], .mk (some 16) none (.bin .add (.t 15) (.k (.int .i64 1))) [], .mk (some 8) none (.mv (.t 16)) []])))))

theorem fn248 : FnIs Tryz.prog 248 53 ac248 [] := ⟨⟨Tryz.f248, _, Tryz.func248, rfl, Tryz.ntmps248, by kernel_rfl, by rw [Tryz.results248], by decide⟩⟩

end Go.Bm
