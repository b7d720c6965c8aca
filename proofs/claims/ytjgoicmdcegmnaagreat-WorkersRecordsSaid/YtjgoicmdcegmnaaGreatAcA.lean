/- Abstract code of functions: records and visitors. -/
import Derived.Test.YtjgoicmdcegmnaaGreatBmD
import Derived.Test.YtjgoicmdcegmnaaGreatProg
import Derived.KernelRfl

set_option linter.unusedVariables false
set_option linter.unusedSimpArgs false

/- Abstract code of functions (printed). -/
namespace Go.Bm
open Go Go.Proofs

def ac16 : ACode := .seq
  (.reg false [.mk (some 4) none (.mv (.k (.sl .full 1 []))) []]) (.seq (.seq
  (.reg false [.mk (some 6) none (.mv (.k (.int .i64 0))) []])
  (.block 0
  (.loop (.seq
  (.reg false [.mk (some 7) none (.bin .lss (.t 6) (.k (.int .i64 8))) []]) (.seq
  (.cond (.t 7) .skip (.exit 0)) (.seq
  (.block 1 (.seq
  (.reg false [.mk (some 8) none (.mv (.t 6)) [], .mk (some 5) none (.mv (.t 8)) []])
  (.reg false [.mk (some 9) none (.mv (.t 0)) [], .mk (some 10) none (.mv (.t 1)) [], .mk (some 11) none (.mv (.t 5)) [], .mk (some 12) none (.bin .mul (.k (.int .i64 8)) (.t 11)) [], .mk (some 13) none (.bin .shr (.t 10) (.t 12)) [], .mk (some 14) none (.conv .u8 (.t 13)) [], .mk (some 15) none (.bslice false 1 [.int .u8 0] 1 [(0, .t 14)]) [], .mk (some 16) none (.append 1 1 (.t 9) (.t 15)) [], .mk (some 0) none (.mv (.t 16)) []])))
  (.reg false [.mk (some 17) none (.bin .add (.t 6) (.k (.int .i64 1))) [], .mk (some 6) none (.mv (.t 17)) []]))))))) (.seq
  (.reg false [.mk (some 18) none (.mv (.t 0)) [], .mk (some 4) none (.mv (.t 18)) []]) .ret))

theorem fn16 : FnIs Tryz.prog 16 19 ac16 [.tmp 4] := ⟨⟨Tryz.f16, _, Tryz.func16, rfl, Tryz.ntmps16, by kernel_rfl, by rw [Tryz.results16], by decide⟩⟩

def ac17 : ACode := .seq
  (.reg false [.mk (some 2) none (.mv (.k (.int .u64 0))) []]) (.seq
  (.reg false [.mk (some 6) none (.mv (.t 0)) [], .mk (some 7) none (.len (.t 6)) [], .mk (some 8) none (.conv .u64 (.t 7)) [], .mk (some 9) none (.call (.k (.fn 35 [] [])) [.k (.int .u64 2611923443488327891), .t 8]) [], .mk (some 3) none (.mv (.t 9)) []]) (.seq (.seq
  (.reg false [.mk (some 10) none (.mv (.t 0)) [], .mk (some 11) none (.len (.t 10)) [], .mk (some 12) none (.mv (.k (.int .i64 0))) []])
  (.block 0
  (.loop (.seq
  (.reg false [.mk (some 13) none (.bin .lss (.t 12) (.t 11)) []]) (.seq
  (.cond (.t 13) .skip (.exit 0)) (.seq
  (.block 1 (.seq
  (.reg false [.mk (some 14) none (.iaddr 1 (.t 10) (.t 12)) [], .mk (some 15) none (.load none (.t 14)) [], .mk (some 5) none (.mv (.t 15)) []])
  (.reg false [.mk (some 16) none (.mv (.t 3)) [], .mk (some 17) none (.mv (.t 5)) [], .mk (some 18) none (.conv .u64 (.t 17)) [], .mk (some 19) none (.call (.k (.fn 35 [] [])) [.t 16, .t 18]) [], .mk (some 3) none (.mv (.t 19)) []])))
  (.reg false [.mk (some 20) none (.bin .add (.t 12) (.k (.int .i64 1))) [], .mk (some 12) none (.mv (.t 20)) []]))))))) (.seq
  (.reg false [.mk (some 21) none (.mv (.t 3)) [], .mk (some 2) none (.mv (.t 21)) []]) .ret)))

theorem fn17 : FnIs Tryz.prog 17 22 ac17 [.tmp 2] := ⟨⟨Tryz.f17, _, Tryz.func17, rfl, Tryz.ntmps17, by kernel_rfl, by rw [Tryz.results17], by decide⟩⟩

def ac35 : ACode := .seq
  (.reg false [.mk (some 4) none (.mv (.k (.int .u64 0))) []]) (.seq
  (.reg false [.mk (some 6) none (.mv (.t 0)) [], .mk (some 7) none (.mv (.t 1)) [], .mk (some 8) none (.bin .xor (.t 6) (.t 7)) [], .mk (some 9) none (.bin .mul (.t 8) (.k (.int .u64 11400714819323198485))) [], .mk (some 5) none (.mv (.t 9)) []]) (.seq
  (.reg false [.mk (some 10) none (.mv (.t 5)) [], .mk (some 11) none (.mv (.t 5)) [], .mk (some 12) none (.bin .shr (.t 11) (.k (.int .u64 29))) [], .mk (some 13) none (.bin .xor (.t 10) (.t 12)) [], .mk (some 14) none (.bin .mul (.t 13) (.k (.int .u64 13787848793156543929))) [], .mk (some 5) none (.mv (.t 14)) []]) (.seq
  (.reg false [.mk (some 15) none (.mv (.t 5)) [], .mk (some 16) none (.mv (.t 5)) [], .mk (some 17) none (.bin .shr (.t 16) (.k (.int .u64 32))) [], .mk (some 18) none (.bin .xor (.t 15) (.t 17)) [], .mk (some 4) none (.mv (.t 18)) []]) .ret)))

theorem fn35 : FnIs Tryz.prog 35 19 ac35 [.tmp 4] := ⟨⟨Tryz.f35, _, Tryz.func35, rfl, Tryz.ntmps35, by kernel_rfl, by rw [Tryz.results35], by decide⟩⟩

def ac67 : ACode := .seq
  (.reg false [.mk (some 2) none (.mv (.t 0)) [], .mk (some 3) none (.un .not (.t 2)) []])
  (.cond (.t 3)
  (.reg false [.mk (some 4) none (.build [] []) [], .mk (some 5) none (.mkif 189 (.t 4)) [], .mk none none (.pan (.t 5)) []]) .skip)

theorem fn67 : FnIs Tryz.prog 67 6 ac67 [] := ⟨⟨Tryz.f67, _, Tryz.func67, rfl, Tryz.ntmps67, by kernel_rfl, by rw [Tryz.results67], by decide⟩⟩

def ac81 : ACode := .seq
  (.reg false [.mk (some 2) none (.mv (.k (.int .i64 0))) []]) (.seq
  (.reg false [.mk (some 3) none (.mv (.k (.int .u64 0))) []]) (.seq (.seq
  (.reg false [.mk (some 5) none (.mv (.k (.int .i64 0))) []])
  (.block 0
  (.loop (.seq
  (.reg false [.mk (some 6) none (.bin .lss (.t 5) (.k (.int .i64 8))) []]) (.seq
  (.cond (.t 6) .skip (.exit 0)) (.seq
  (.block 1 (.seq
  (.reg false [.mk (some 7) none (.mv (.t 5)) [], .mk (some 4) none (.mv (.t 7)) []])
  (.reg false [.mk (some 8) none (.mv (.t 3)) [], .mk (some 9) none (.mv (.t 0)) [], .mk (some 10) none (.mv (.t 4)) [], .mk (some 11) none (.iaddr 1 (.t 9) (.t 10)) [], .mk (some 12) none (.load none (.t 11)) [], .mk (some 13) none (.conv .u64 (.t 12)) [], .mk (some 14) none (.mv (.t 4)) [], .mk (some 15) none (.bin .mul (.k (.int .i64 8)) (.t 14)) [], .mk (some 16) none (.bin .shl (.t 13) (.t 15)) [], .mk (some 17) none (.bin .or (.t 8) (.t 16)) [], .mk (some 3) none (.mv (.t 17)) []])))
  (.reg false [.mk (some 18) none (.bin .add (.t 5) (.k (.int .i64 1))) [], .mk (some 5) none (.mv (.t 18)) []]))))))) (.seq
  (.reg false [.mk (some 19) none (.mv (.t 3)) [], .mk (some 20) none (.conv .i64 (.t 19)) [], .mk (some 2) none (.mv (.t 20)) []]) .ret)))

theorem fn81 : FnIs Tryz.prog 81 21 ac81 [.tmp 2] := ⟨⟨Tryz.f81, _, Tryz.func81, rfl, Tryz.ntmps81, by kernel_rfl, by rw [Tryz.results81], by decide⟩⟩

end Go.Bm

/- Abstract code of functions (printed). -/
namespace Go.Bm
open Go Go.Proofs

def ac138 : ACode := .seq
  (.reg false [.mk (some 2) none (.box 1 (.t 0)) [], .mk (some 3) none (.box 1 (.t 1)) [], .mk (some 4) none (.mv (.k .nilf)) []]) (.seq (.seq
  (.reg false [.mk (some 5) none (.load none (.t 3)) [], .mk (some 6) none (.bin .lss (.t 5) (.k (.int .i64 1))) []])
  (.cond (.t 6)
  (.reg false [.mk (some 7) none (.mkif 9 (.k (.str (ByteArray.mk (Array.mk [99, 97, 110, 110, 111, 116, 32, 98, 101, 32, 108, 101, 115, 115, 32, 116, 104, 97, 110, 32, 49]))))) [], .mk none none (.pan (.t 7)) []]) .skip)) (.seq
  (.reg false [.mk (some 8) none (.mkfn 202 [] [.t 2, .t 3]) [], .mk (some 4) none (.mv (.t 8)) []]) .ret))

theorem fn138 : FnIs Tryz.prog 138 9 ac138 [.tmp 4] := ⟨⟨Tryz.f138, _, Tryz.func138, rfl, Tryz.ntmps138, by kernel_rfl, by rw [Tryz.results138], by decide⟩⟩

def ac202 : ACode := .seq
  (.reg false [.mk (some 4) none (.mv (.k (.int .i64 0))) []])
  (.block 0
  (.loop (.seq (.seq
  (.reg false [.mk (some 6) none (.mv (.t 4)) [], .mk (some 7) none (.load none (.t 1)) [], .mk (some 8) none (.len (.t 7)) [], .mk (some 9) none (.bin .lss (.t 6) (.t 8)) []])
  (.cond (.t 9) .skip (.exit 0))) (.seq
  (.block 1 (.seq
  (.reg true [.mk (some 13) none (.load none (.t 2)) [], .mk (some 14) none (.load none (.t 1)) [], .mk (some 15) none (.mv (.t 4)) [], .mk (some 16) none (.slice 1 (.t 14) (some (.t 15)) none none) [1, 2], .mk (some 17) none (.len (.t 16)) [3, 1, 2], .mk (some 18) none (.mnx false (.t 13) (.t 17)) [0, 4, 3, 1, 2], .mk (some 5) none (.mv (.t 18)) [5, 0, 4, 3, 1, 2]]) (.seq
  (.reg false [.mk (some 19) none (.mv (.t 0)) [], .mk (some 20) none (.load none (.t 1)) [], .mk (some 21) none (.mv (.t 4)) [], .mk (some 22) none (.mv (.t 4)) [], .mk (some 23) none (.mv (.t 5)) [], .mk (some 24) none (.bin .add (.t 22) (.t 23)) [], .mk (some 25) none (.mv (.t 4)) [], .mk (some 26) none (.mv (.t 5)) [], .mk (some 27) none (.bin .add (.t 25) (.t 26)) [], .mk (some 28) none (.slice 1 (.t 20) (some (.t 21)) (some (.t 24)) (some (.t 27))) [], .mk (some 29) none (.call (.t 19) [.t 28]) [], .mk (some 30) none (.un .not (.t 29)) []])
  (.cond (.t 30) .ret .skip))))
  (.reg false [.mk (some 10) none (.mv (.t 4)) [], .mk (some 11) none (.load none (.t 2)) [], .mk (some 12) none (.bin .add (.t 10) (.t 11)) [], .mk (some 4) none (.mv (.t 12)) []])))))

theorem fn202 : FnIs Tryz.prog 202 31 ac202 [] := ⟨⟨Tryz.f202, _, Tryz.func202, rfl, Tryz.ntmps202, by kernel_rfl, by rw [Tryz.results202], by decide⟩⟩

def ac21 : ACode := .seq
  (.reg false [.mk (some 2) none (.mv (.k (.sl .full 1 []))) []]) (.seq (.seq
  (.reg false [.mk (some 3) none (.mv (.t 0)) [], .mk (some 4) none (.isnils false (.t 3)) []])
  (.cond (.t 4) (.seq
  (.reg false [.mk (some 2) none (.mv (.k (.sl .full 1 []))) []]) .ret) .skip)) (.seq
  (.reg false [.mk (some 5) none (.bslice false 1 [.int .u8 0] 0 []) [], .mk (some 6) none (.mv (.t 0)) [], .mk (some 7) none (.append 1 1 (.t 5) (.t 6)) [], .mk (some 2) none (.mv (.t 7)) []]) .ret))

theorem fn21 : FnIs Tryz.prog 21 8 ac21 [.tmp 2] := ⟨⟨Tryz.f21, _, Tryz.func21, rfl, Tryz.ntmps21, by kernel_rfl, by rw [Tryz.results21], by decide⟩⟩

end Go.Bm

/- Abstract code of functions (printed). -/
namespace Go.Bm
open Go Go.Proofs

def ac14 : ACode := .seq
  (.reg false [.mk (some 3) none (.mv (.k (.int .i64 0))) []]) (.seq
  (.reg false [.mk (some 4) none (.load none (.t 1)) [], .mk (some 5) none (.mv (.t 0)) [], .mk (some 6) none (.bslice false 1 [.int .i64 0] 1 [(0, .t 5)]) [], .mk (some 7) none (.append 1 8 (.t 4) (.t 6)) [], .mk none none (.store 1 (.t 1) (.t 7)) []]) (.seq
  (.reg false [.mk (some 8) none (.mv (.t 0)) [], .mk (some 3) none (.mv (.t 8)) []]) .ret))

theorem fn14 : FnIs Tryz.prog 14 9 ac14 [.tmp 3] := ⟨⟨Tryz.f14, _, Tryz.func14, rfl, Tryz.ntmps14, by kernel_rfl, by rw [Tryz.results14], by decide⟩⟩

def ac15 : ACode := .seq
  (.reg false [.mk (some 2) none (.box 2 (.t 0)) []]) (.seq
  (.reg true [.mk (some 5) none (.load (some 2) (.t 2)) [], .mk (some 6) none (.mv (.t 1)) [], .mk (some 7) none (.nilck (.t 6)) [1], .mk (some 8) none (.faddr (.t 7) 0) [2, 1], .mk (some 9) none (.call (.k (.fn 26 [] [])) [.t 5, .t 8]) [0, 3, 2, 1]]) (.seq
  (.reg false [.mk (some 10) none (.mv (.t 1)) [], .mk (some 11) none (.nilck (.t 10)) [], .mk (some 12) none (.faddr (.t 11) 6) [], .mk (some 4) none (.mv (.t 12)) []]) (.seq
  (.reg true [.mk (some 13) none (.load (some 2) (.t 2)) [], .mk (some 14) none (.mv (.t 4)) [], .mk (some 15) none (.nilck (.t 14)) [1], .mk (some 16) none (.faddr (.t 15) 0) [2, 1], .mk (some 17) none (.bslice false 1 [.nilp] 1 [(0, .t 16)]) [3, 2, 1], .mk (some 18) none (.call (.k (.fn 27 [] [])) [.t 13, .t 17]) [0, 4, 3, 2, 1]]) (.seq
  (.reg true [.mk (some 19) none (.mv (.t 4)) [], .mk (some 20) none (.load (some 2) (.t 2)) [], .mk (some 21) none (.mv (.t 4)) [], .mk (some 22) none (.nilck (.t 21)) [2], .mk (some 23) none (.faddr (.t 22) 1) [3, 2], .mk (some 24) none (.load none (.t 23)) [4, 3, 2], .mk (some 25) none (.load (some 2) (.t 2)) [], .mk (some 26) none (.mkfn 29 [.t 25] []) [6], .mk (some 27) none (.call (.k (.fn 28 [] [])) [.t 20, .t 24, .t 26]) [1, 5, 7, 4, 3, 2, 6], .mk (some 28) none (.nilck (.t 19)) [0, 8, 1, 5, 7, 4, 3, 2, 6], .mk (some 29) none (.faddr (.t 28) 1) [9, 0, 8, 1, 5, 7, 4, 3, 2, 6], .mk none none (.store 1 (.t 29) (.t 27)) [10, 9, 0, 8, 1, 5, 7, 4, 3, 2, 6]]) (.seq
  (.reg true [.mk (some 30) none (.load (some 2) (.t 2)) [], .mk (some 31) none (.mv (.t 4)) [], .mk (some 32) none (.nilck (.t 31)) [1], .mk (some 33) none (.faddr (.t 32) 2) [2, 1], .mk (some 34) none (.call (.k (.fn 30 [] [])) [.t 30, .t 33]) [0, 3, 2, 1]]) (.seq
  (.reg true [.mk (some 35) none (.mv (.t 4)) [], .mk (some 36) none (.load (some 2) (.t 2)) [], .mk (some 37) none (.mv (.t 4)) [], .mk (some 38) none (.nilck (.t 37)) [2], .mk (some 39) none (.faddr (.t 38) 13) [3, 2], .mk (some 40) none (.load none (.t 39)) [4, 3, 2], .mk (some 41) none (.mkfn 32 [] [.t 2]) [], .mk (some 42) none (.call (.k (.fn 31 [] [])) [.t 36, .t 40, .t 41]) [1, 5, 6, 4, 3, 2], .mk (some 43) none (.nilck (.t 35)) [0, 7, 1, 5, 6, 4, 3, 2], .mk (some 44) none (.faddr (.t 43) 13) [8, 0, 7, 1, 5, 6, 4, 3, 2], .mk none none (.store 1 (.t 44) (.t 42)) [9, 8, 0, 7, 1, 5, 6, 4, 3, 2]]) (.seq
  (.reg true [.mk (some 45) none (.load (some 2) (.t 2)) [], .mk (some 46) none (.mv (.t 4)) [], .mk (some 47) none (.nilck (.t 46)) [1], .mk (some 48) none (.faddr (.t 47) 14) [2, 1], .mk (some 49) none (.call (.k (.fn 33 [] [])) [.t 45, .t 48]) [0, 3, 2, 1]])
  (.reg true [.mk (some 50) none (.load (some 2) (.t 2)) [], .mk (some 51) none (.mv (.t 4)) [], .mk (some 52) none (.nilck (.t 51)) [1], .mk (some 53) none (.faddr (.t 52) 15) [2, 1], .mk (some 54) none (.call (.k (.fn 34 [] [])) [.t 50, .t 53]) [0, 3, 2, 1]]))))))))

theorem fn15 : FnIs Tryz.prog 15 55 ac15 [] := ⟨⟨Tryz.f15, _, Tryz.func15, rfl, Tryz.ntmps15, by kernel_rfl, by rw [Tryz.results15], by decide⟩⟩

def ac26 : ACode := .seq
  (.reg false [.mk (some 2) none (.box 2 (.t 0)) []]) (.seq
  (.reg true [.mk (some 4) none (.load (some 2) (.t 2)) [], .mk (some 5) none (.mv (.t 1)) [], .mk (some 6) none (.nilck (.t 5)) [1], .mk (some 7) none (.faddr (.t 6) 0) [2, 1], .mk (some 8) none (.bslice false 1 [.nilp] 1 [(0, .t 7)]) [3, 2, 1], .mk (some 9) none (.call (.k (.fn 27 [] [])) [.t 4, .t 8]) [0, 4, 3, 2, 1]]) (.seq
  (.reg true [.mk (some 10) none (.load (some 2) (.t 2)) [], .mk (some 11) none (.mv (.t 1)) [], .mk (some 12) none (.nilck (.t 11)) [1], .mk (some 13) none (.faddr (.t 12) 1) [2, 1], .mk (some 14) none (.call (.k (.fn 63 [] [])) [.t 10, .t 13]) [0, 3, 2, 1]]) (.seq
  (.reg true [.mk (some 15) none (.load (some 2) (.t 2)) [], .mk (some 16) none (.mv (.t 1)) [], .mk (some 17) none (.nilck (.t 16)) [1], .mk (some 18) none (.faddr (.t 17) 2) [2, 1], .mk (some 19) none (.call (.k (.fn 34 [] [])) [.t 15, .t 18]) [0, 3, 2, 1]]) (.seq
  (.reg true [.mk (some 20) none (.mv (.t 1)) [], .mk (some 21) none (.load (some 2) (.t 2)) [], .mk (some 22) none (.mv (.t 1)) [], .mk (some 23) none (.nilck (.t 22)) [2], .mk (some 24) none (.faddr (.t 23) 3) [3, 2], .mk (some 25) none (.load none (.t 24)) [4, 3, 2], .mk (some 26) none (.load (some 2) (.t 2)) [], .mk (some 27) none (.mkfn 30 [.t 26] []) [6], .mk (some 28) none (.call (.k (.fn 64 [] [])) [.t 21, .t 25, .t 27]) [1, 5, 7, 4, 3, 2, 6], .mk (some 29) none (.nilck (.t 20)) [0, 8, 1, 5, 7, 4, 3, 2, 6], .mk (some 30) none (.faddr (.t 29) 3) [9, 0, 8, 1, 5, 7, 4, 3, 2, 6], .mk none none (.store 1 (.t 30) (.t 28)) [10, 9, 0, 8, 1, 5, 7, 4, 3, 2, 6]]) (.seq
  (.reg true [.mk (some 31) none (.mv (.t 1)) [], .mk (some 32) none (.load (some 2) (.t 2)) [], .mk (some 33) none (.mv (.t 1)) [], .mk (some 34) none (.nilck (.t 33)) [2], .mk (some 35) none (.faddr (.t 34) 4) [3, 2], .mk (some 36) none (.load none (.t 35)) [4, 3, 2], .mk (some 37) none (.mkfn 66 [] [.t 2]) [], .mk (some 38) none (.call (.k (.fn 65 [] [])) [.t 32, .t 36, .t 37]) [1, 5, 6, 4, 3, 2], .mk (some 39) none (.nilck (.t 31)) [0, 7, 1, 5, 6, 4, 3, 2], .mk (some 40) none (.faddr (.t 39) 4) [8, 0, 7, 1, 5, 6, 4, 3, 2], .mk none none (.store 1 (.t 40) (.t 38)) [9, 8, 0, 7, 1, 5, 6, 4, 3, 2]])
  (.reg true [.mk (some 41) none (.load (some 2) (.t 2)) [], .mk (some 42) none (.mv (.t 1)) [], .mk (some 43) none (.nilck (.t 42)) [1], .mk (some 44) none (.faddr (.t 43) 5) [2, 1], .mk (some 45) none (.bslice false 1 [.nilp] 1 [(0, .t 44)]) [3, 2, 1], .mk (some 46) none (.call (.k (.fn 27 [] [])) [.t 41, .t 45]) [0, 4, 3, 2, 1]]))))))

theorem fn26 : FnIs Tryz.prog 26 47 ac26 [] := ⟨⟨Tryz.f26, _, Tryz.func26, rfl, Tryz.ntmps26, by kernel_rfl, by rw [Tryz.results26], by decide⟩⟩

def ac27 : ACode := .seq
  (.reg false [.mk (some 2) none (.box 2 (.t 0)) []]) (.seq
  (.reg false [.mk (some 6) none (.mv (.t 1)) [], .mk (some 7) none (.len (.t 6)) [], .mk (some 8) none (.mv (.k (.int .i64 0))) []])
  (.block 0
  (.loop (.seq
  (.reg false [.mk (some 9) none (.bin .lss (.t 8) (.t 7)) []]) (.seq
  (.cond (.t 9) .skip (.exit 0)) (.seq
  (.block 1 (.seq
  (.reg false [.mk (some 10) none (.iaddr 1 (.t 6) (.t 8)) [], .mk (some 11) none (.load none (.t 10)) [], .mk (some 5) none (.mv (.t 11)) []])
  (.reg true [.mk (some 12) none (.mv (.t 5)) [], .mk (some 13) none (.faddr (.t 2) 0) [], .mk (some 14) none (.load none (.t 13)) [1], .mk (some 15) none (.mv (.t 5)) [], .mk (some 16) none (.nilck (.t 15)) [3], .mk (some 17) none (.load none (.t 16)) [4, 3], .mk (some 18) none (.call (.t 14) [.t 17]) [2, 5, 1, 4, 3], .mk (some 19) none (.nilck (.t 12)) [0, 6, 2, 5, 1, 4, 3], .mk none none (.store 1 (.t 19) (.t 18)) [7, 0, 6, 2, 5, 1, 4, 3]])))
  (.reg false [.mk (some 20) none (.bin .add (.t 8) (.k (.int .i64 1))) [], .mk (some 8) none (.mv (.t 20)) []])))))))

theorem fn27 : FnIs Tryz.prog 27 21 ac27 [] := ⟨⟨Tryz.f27, _, Tryz.func27, rfl, Tryz.ntmps27, by kernel_rfl, by rw [Tryz.results27], by decide⟩⟩

def ac29 : ACode := .seq
  (.reg false [.mk (some 2) none (.box 2 (.t 0)) []]) (.seq
  (.reg true [.mk (some 4) none (.load (some 2) (.t 2)) [], .mk (some 5) none (.mv (.t 1)) [], .mk (some 6) none (.nilck (.t 5)) [1], .mk (some 7) none (.faddr (.t 6) 0) [2, 1], .mk (some 8) none (.call (.k (.fn 69 [] [])) [.t 4, .t 7]) [0, 3, 2, 1]]) (.seq
  (.reg true [.mk (some 9) none (.mv (.t 1)) [], .mk (some 10) none (.load (some 2) (.t 2)) [], .mk (some 11) none (.mv (.t 1)) [], .mk (some 12) none (.nilck (.t 11)) [2], .mk (some 13) none (.faddr (.t 12) 1) [3, 2], .mk (some 14) none (.load none (.t 13)) [4, 3, 2], .mk (some 15) none (.load (some 2) (.t 2)) [], .mk (some 16) none (.mkfn 71 [.t 15] []) [6], .mk (some 17) none (.call (.k (.fn 70 [] [])) [.t 10, .t 14, .t 16]) [1, 5, 7, 4, 3, 2, 6], .mk (some 18) none (.nilck (.t 9)) [0, 8, 1, 5, 7, 4, 3, 2, 6], .mk (some 19) none (.faddr (.t 18) 1) [9, 0, 8, 1, 5, 7, 4, 3, 2, 6], .mk none none (.store 1 (.t 19) (.t 17)) [10, 9, 0, 8, 1, 5, 7, 4, 3, 2, 6]]) (.seq
  (.reg true [.mk (some 20) none (.mv (.t 1)) [], .mk (some 21) none (.load (some 2) (.t 2)) [], .mk (some 22) none (.mv (.t 1)) [], .mk (some 23) none (.nilck (.t 22)) [2], .mk (some 24) none (.faddr (.t 23) 2) [3, 2], .mk (some 25) none (.load none (.t 24)) [4, 3, 2], .mk (some 26) none (.load (some 2) (.t 2)) [], .mk (some 27) none (.mkfn 34 [.t 26] []) [6], .mk (some 28) none (.call (.k (.fn 72 [] [])) [.t 21, .t 25, .t 27]) [1, 5, 7, 4, 3, 2, 6], .mk (some 29) none (.nilck (.t 20)) [0, 8, 1, 5, 7, 4, 3, 2, 6], .mk (some 30) none (.faddr (.t 29) 2) [9, 0, 8, 1, 5, 7, 4, 3, 2, 6], .mk none none (.store 1 (.t 30) (.t 28)) [10, 9, 0, 8, 1, 5, 7, 4, 3, 2, 6]]) (.seq
  (.reg true [.mk (some 31) none (.mv (.t 1)) [], .mk (some 32) none (.load (some 2) (.t 2)) [], .mk (some 33) none (.mv (.t 1)) [], .mk (some 34) none (.nilck (.t 33)) [2], .mk (some 35) none (.faddr (.t 34) 3) [3, 2], .mk (some 36) none (.load none (.t 35)) [4, 3, 2], .mk (some 37) none (.mkfn 74 [] [.t 2]) [], .mk (some 38) none (.call (.k (.fn 73 [] [])) [.t 32, .t 36, .t 37]) [1, 5, 6, 4, 3, 2], .mk (some 39) none (.nilck (.t 31)) [0, 7, 1, 5, 6, 4, 3, 2], .mk (some 40) none (.faddr (.t 39) 3) [8, 0, 7, 1, 5, 6, 4, 3, 2], .mk none none (.store 1 (.t 40) (.t 38)) [9, 8, 0, 7, 1, 5, 6, 4, 3, 2]]) (.seq
  (.reg true [.mk (some 41) none (.load (some 2) (.t 2)) [], .mk (some 42) none (.mv (.t 1)) [], .mk (some 43) none (.nilck (.t 42)) [1], .mk (some 44) none (.faddr (.t 43) 4) [2, 1], .mk (some 45) none (.call (.k (.fn 34 [] [])) [.t 41, .t 44]) [0, 3, 2, 1]])
  (.reg true [.mk (some 46) none (.load (some 2) (.t 2)) [], .mk (some 47) none (.mv (.t 1)) [], .mk (some 48) none (.nilck (.t 47)) [1], .mk (some 49) none (.faddr (.t 48) 5) [2, 1], .mk (some 50) none (.mv (.t 1)) [], .mk (some 51) none (.nilck (.t 50)) [4], .mk (some 52) none (.faddr (.t 51) 6) [5, 4], .mk (some 53) none (.mv (.t 1)) [], .mk (some 54) none (.nilck (.t 53)) [7], .mk (some 55) none (.faddr (.t 54) 7) [8, 7], .mk (some 56) none (.bslice false 1 [.nilp] 3 [(0, .t 49), (1, .t 52), (2, .t 55)]) [3, 6, 9, 2, 1, 5, 4, 8, 7], .mk (some 57) none (.call (.k (.fn 27 [] [])) [.t 46, .t 56]) [0, 10, 3, 6, 9, 2, 1, 5, 4, 8, 7]]))))))

theorem fn29 : FnIs Tryz.prog 29 58 ac29 [] := ⟨⟨Tryz.f29, _, Tryz.func29, rfl, Tryz.ntmps29, by kernel_rfl, by rw [Tryz.results29], by decide⟩⟩

def ac30 : ACode := .seq
  (.reg false [.mk (some 2) none (.box 2 (.t 0)) []]) (.seq
  (.reg true [.mk (some 4) none (.load (some 2) (.t 2)) [], .mk (some 5) none (.mv (.t 1)) [], .mk (some 6) none (.nilck (.t 5)) [1], .mk (some 7) none (.faddr (.t 6) 0) [2, 1], .mk (some 8) none (.bslice false 1 [.nilp] 1 [(0, .t 7)]) [3, 2, 1], .mk (some 9) none (.call (.k (.fn 27 [] [])) [.t 4, .t 8]) [0, 4, 3, 2, 1]]) (.seq
  (.reg true [.mk (some 10) none (.load (some 2) (.t 2)) [], .mk (some 11) none (.mv (.t 1)) [], .mk (some 12) none (.nilck (.t 11)) [1], .mk (some 13) none (.faddr (.t 12) 1) [2, 1], .mk (some 14) none (.call (.k (.fn 71 [] [])) [.t 10, .t 13]) [0, 3, 2, 1]]) (.seq
  (.reg true [.mk (some 15) none (.load (some 2) (.t 2)) [], .mk (some 16) none (.mv (.t 1)) [], .mk (some 17) none (.nilck (.t 16)) [1], .mk (some 18) none (.faddr (.t 17) 6) [2, 1], .mk (some 19) none (.mv (.t 1)) [], .mk (some 20) none (.nilck (.t 19)) [4], .mk (some 21) none (.faddr (.t 20) 7) [5, 4], .mk (some 22) none (.mv (.t 1)) [], .mk (some 23) none (.nilck (.t 22)) [7], .mk (some 24) none (.faddr (.t 23) 8) [8, 7], .mk (some 25) none (.bslice false 1 [.nilp] 3 [(0, .t 18), (1, .t 21), (2, .t 24)]) [3, 6, 9, 2, 1, 5, 4, 8, 7], .mk (some 26) none (.call (.k (.fn 27 [] [])) [.t 15, .t 25]) [0, 10, 3, 6, 9, 2, 1, 5, 4, 8, 7]]) (.seq
  (.reg true [.mk (some 27) none (.load (some 2) (.t 2)) [], .mk (some 28) none (.mv (.t 1)) [], .mk (some 29) none (.nilck (.t 28)) [1], .mk (some 30) none (.faddr (.t 29) 9) [2, 1], .mk (some 31) none (.call (.k (.fn 33 [] [])) [.t 27, .t 30]) [0, 3, 2, 1]])
  (.reg true [.mk (some 32) none (.load (some 2) (.t 2)) [], .mk (some 33) none (.mv (.t 1)) [], .mk (some 34) none (.nilck (.t 33)) [1], .mk (some 35) none (.faddr (.t 34) 10) [2, 1], .mk (some 36) none (.bslice false 1 [.nilp] 1 [(0, .t 35)]) [3, 2, 1], .mk (some 37) none (.call (.k (.fn 27 [] [])) [.t 32, .t 36]) [0, 4, 3, 2, 1]])))))

theorem fn30 : FnIs Tryz.prog 30 38 ac30 [] := ⟨⟨Tryz.f30, _, Tryz.func30, rfl, Tryz.ntmps30, by kernel_rfl, by rw [Tryz.results30], by decide⟩⟩

def ac32 : ACode := .reg true [.mk (some 3) none (.load (some 2) (.t 1)) [], .mk (some 4) none (.mv (.t 0)) [], .mk (some 5) none (.nilck (.t 4)) [1], .mk (some 6) none (.faddr (.t 5) 0) [2, 1], .mk (some 7) none (.mv (.t 0)) [], .mk (some 8) none (.nilck (.t 7)) [4], .mk (some 9) none (.faddr (.t 8) 1) [5, 4], .mk (some 10) none (.mv (.t 0)) [], .mk (some 11) none (.nilck (.t 10)) [7], .mk (some 12) none (.faddr (.t 11) 2) [8, 7], .mk (some 13) none (.bslice false 1 [.nilp] 3 [(0, .t 6), (1, .t 9), (2, .t 12)]) [3, 6, 9, 2, 1, 5, 4, 8, 7], .mk (some 14) none (.call (.k (.fn 27 [] [])) [.t 3, .t 13]) [0, 10, 3, 6, 9, 2, 1, 5, 4, 8, 7]]

theorem fn32 : FnIs Tryz.prog 32 15 ac32 [] := ⟨⟨Tryz.f32, _, Tryz.func32, rfl, Tryz.ntmps32, by kernel_rfl, by rw [Tryz.results32], by decide⟩⟩

def ac33 : ACode := .seq
  (.reg false [.mk (some 2) none (.box 2 (.t 0)) []])
  (.reg true [.mk (some 4) none (.mv (.t 1)) [], .mk (some 5) none (.load (some 2) (.t 2)) [], .mk (some 6) none (.mv (.t 1)) [], .mk (some 7) none (.nilck (.t 6)) [2], .mk (some 8) none (.load none (.t 7)) [3, 2], .mk (some 9) none (.mkfn 77 [] [.t 2]) [], .mk (some 10) none (.call (.k (.fn 76 [] [])) [.t 5, .t 8, .t 9]) [1, 4, 5, 3, 2], .mk (some 11) none (.nilck (.t 4)) [0, 6, 1, 4, 5, 3, 2], .mk none none (.store 1 (.t 11) (.t 10)) [7, 0, 6, 1, 4, 5, 3, 2]])

theorem fn33 : FnIs Tryz.prog 33 12 ac33 [] := ⟨⟨Tryz.f33, _, Tryz.func33, rfl, Tryz.ntmps33, by kernel_rfl, by rw [Tryz.results33], by decide⟩⟩

def ac34 : ACode := .seq
  (.reg false [.mk (some 2) none (.box 2 (.t 0)) []])
  (.reg true [.mk (some 4) none (.mv (.t 1)) [], .mk (some 5) none (.load (some 2) (.t 2)) [], .mk (some 6) none (.mv (.t 1)) [], .mk (some 7) none (.nilck (.t 6)) [2], .mk (some 8) none (.load none (.t 7)) [3, 2], .mk (some 9) none (.mkfn 79 [] [.t 2]) [], .mk (some 10) none (.call (.k (.fn 78 [] [])) [.t 5, .t 8, .t 9]) [1, 4, 5, 3, 2], .mk (some 11) none (.nilck (.t 4)) [0, 6, 1, 4, 5, 3, 2], .mk none none (.store 1 (.t 11) (.t 10)) [7, 0, 6, 1, 4, 5, 3, 2]])

theorem fn34 : FnIs Tryz.prog 34 12 ac34 [] := ⟨⟨Tryz.f34, _, Tryz.func34, rfl, Tryz.ntmps34, by kernel_rfl, by rw [Tryz.results34], by decide⟩⟩

noncomputable def ac63 : ACode := .seq
  (.reg false [.mk (some 2) none (.box 2 (.t 0)) []]) (.seq
  (.reg true [.mk (some 11) none (.faddr (.t 2) 0) [], .mk (some 12) none (.load none (.t 11)) [0], .mk (some 13) none (.mv (.t 1)) [], .mk (some 14) none (.nilck (.t 13)) [2], .mk (some 15) none (.load none (.t 14)) [3, 2], .mk (some 16) none (.len (.t 15)) [4, 3, 2], .mk (some 17) none (.call (.t 12) [.t 16]) [1, 5, 0, 4, 3, 2], .mk (some 4) none (.mv (.t 17)) [6, 1, 5, 0, 4, 3, 2]]) (.seq (.seq
  (.reg false [.mk (some 18) none (.mv (.t 4)) [], .mk (some 19) none (.mv (.t 1)) [], .mk (some 20) none (.nilck (.t 19)) [], .mk (some 21) none (.load none (.t 20)) [], .mk (some 22) none (.len (.t 21)) [], .mk (some 23) none (.bin .neq (.t 18) (.t 22)) []])
  (.cond (.t 23) (.seq
  (.reg false [.mk (some 24) none (.mv (.t 4)) [], .mk (some 25) none (.bin .leq (.k (.int .i64 0)) (.t 24)) [], .mk (some 26) none (.mv (.t 25)) [], .mk (some 27) (some (some 26, true)) (.mv (.t 4)) [], .mk (some 28) (some (some 26, true)) (.faddr (.t 2) 1) [], .mk (some 29) (some (some 26, true)) (.load none (.t 28)) [], .mk (some 30) (some (some 26, true)) (.call (.t 29) []) [], .mk (some 31) (some (some 26, true)) (.bin .mul (.k (.int .i64 8)) (.t 30)) [], .mk (some 32) (some (some 26, true)) (.bin .leq (.t 27) (.t 31)) [], .mk (some 33) none (.pick (.t 26) (.t 32) (.k (.bool false))) [], .mk (some 34) none (.call (.k (.fn 67 [] [])) [.t 33]) []])
  (.reg false [.mk (some 35) none (.mv (.t 1)) [], .mk (some 36) none (.mv (.t 4)) [], .mk (some 37) none (.mkslice false 1 1 [.int .u8 0] (.t 36) (.t 36)) [], .mk (some 38) none (.nilck (.t 35)) [], .mk none none (.store 1 (.t 38) (.t 37)) []])) .skip)) (.seq
  (.reg false [.mk (some 39) none (.mv (.t 1)) [], .mk (some 40) none (.nilck (.t 39)) [], .mk (some 41) none (.load none (.t 40)) [], .mk (some 42) none (.call (.k (.fn 21 [] [])) [.t 41]) [], .mk (some 5) none (.mv (.t 42)) []]) (.seq (.seq
  (.reg false [.mk (some 43) none (.mv (.t 5)) [], .mk (some 44) none (.call (.k (.fn 138 [] [])) [.t 43, .k (.int .i64 8)]) []])
  (.block 0
  (.rangeF 96 (.t 44) [45]
  (.reg false [.mk (some 6) none (.mv (.t 45)) []])
  (.block 1 (.seq
  (.reg false [.mk (some 7) none (.mv (.k (.int .u64 0))) []]) (.seq (.seq
  (.reg false [.mk (some 46) none (.mv (.t 6)) [], .mk (some 47) none (.len (.t 46)) [], .mk (some 48) none (.mv (.k (.int .i64 0))) []])
  (.block 2
  (.loop (.seq
  (.reg false [.mk (some 49) none (.bin .lss (.t 48) (.t 47)) []]) (.seq
  (.cond (.t 49) .skip (.exit 2)) (.seq
  (.block 3 (.seq
  (.reg false [.mk (some 50) none (.mv (.t 48)) [], .mk (some 51) none (.iaddr 1 (.t 46) (.t 48)) [], .mk (some 52) none (.load none (.t 51)) [], .mk (some 8) none (.mv (.t 50)) [], .mk (some 9) none (.mv (.t 52)) []])
  (.reg false [.mk (some 53) none (.mv (.t 7)) [], .mk (some 54) none (.mv (.t 9)) [], .mk (some 55) none (.conv .u64 (.t 54)) [], .mk (some 56) none (.mv (.t 8)) [], .mk (some 57) none (.bin .mul (.k (.int .i64 8)) (.t 56)) [], .mk (some 58) none (.bin .shl (.t 55) (.t 57)) [], .mk (some 59) none (.bin .or (.t 53) (.t 58)) [], .mk (some 7) none (.mv (.t 59)) []])))
  (.reg false [.mk (some 60) none (.bin .add (.t 48) (.k (.int .i64 1))) [], .mk (some 48) none (.mv (.t 60)) []]))))))) (.seq
  (.reg false [.mk (some 61) none (.faddr (.t 2) 0) [], .mk (some 62) none (.load none (.t 61)) [], .mk (some 63) none (.mv (.t 7)) [], .mk (some 64) none (.conv .i64 (.t 63)) [], .mk (some 65) none (.call (.t 62) [.t 64]) [], .mk (some 66) none (.conv .u64 (.t 65)) [], .mk (some 7) none (.mv (.t 66)) []]) (.seq (.seq
  (.reg false [.mk (some 67) none (.mv (.t 6)) [], .mk (some 68) none (.len (.t 67)) [], .mk (some 69) none (.mv (.k (.int .i64 0))) []])
  (.block 4
  (.loop (.seq
  (.reg false [.mk (some 70) none (.bin .lss (.t 69) (.t 68)) []]) (.seq
  (.cond (.t 70) .skip (.exit 4)) (.seq
  (.block 5 (.seq
  (.reg false [.mk (some 71) none (.mv (.t 69)) [], .mk (some 10) none (.mv (.t 71)) []])
  (.reg false [.mk (some 72) none (.mv (.t 6)) [], .mk (some 73) none (.mv (.t 10)) [], .mk (some 74) none (.mv (.t 7)) [], .mk (some 75) none (.mv (.t 10)) [], .mk (some 76) none (.bin .mul (.k (.int .i64 8)) (.t 75)) [], .mk (some 77) none (.bin .shr (.t 74) (.t 76)) [], .mk (some 78) none (.conv .u8 (.t 77)) [], .mk (some 79) none (.iaddr 1 (.t 72) (.t 73)) [], .mk none none (.store 1 (.t 79) (.t 78)) []])))
  (.reg false [.mk (some 80) none (.bin .add (.t 69) (.k (.int .i64 1))) [], .mk (some 69) none (.mv (.t 80)) []])))))))
  (.reg false [.mk (some 81) none (.mv (.t 6)) [], .mk (some 82) none (.len (.t 81)) [], .mk (some 83) none (.bin .eql (.t 82) (.k (.int .i64 8))) [], .mk (some 84) none (.mv (.t 83)) [], .mk (some 85) (some (some 84, false)) (.mv (.t 7)) [], .mk (some 86) (some (some 84, false)) (.mv (.t 6)) [], .mk (some 87) (some (some 84, false)) (.len (.t 86)) [], .mk (some 88) (some (some 84, false)) (.bin .mul (.k (.int .i64 8)) (.t 87)) [], .mk (some 89) (some (some 84, false)) (.bin .shr (.t 85) (.t 88)) [], .mk (some 90) (some (some 84, false)) (.bin .eql (.t 89) (.k (.int .u64 0))) [], .mk (some 91) none (.pick (.t 84) (.k (.bool true)) (.t 90)) [], .mk (some 92) none (.call (.k (.fn 67 [] [])) [.t 91]) []])))))) (rfCodes Tryz.f63 0).1 (rfCodes Tryz.f63 0).2)))
  (.reg false [.mk (some 93) none (.mv (.t 1)) [], .mk (some 94) none (.mv (.t 5)) [], .mk (some 95) none (.nilck (.t 93)) [], .mk none none (.store 1 (.t 95) (.t 94)) []])))))

theorem fn63 : FnIs Tryz.prog 63 96 ac63 [] := ⟨⟨Tryz.f63, _, Tryz.func63, rfl, Tryz.ntmps63, by kernel_rfl, by rw [Tryz.results63], by decide⟩⟩

def ac66 : ACode := .reg true [.mk (some 3) none (.load (some 2) (.t 1)) [], .mk (some 4) none (.mv (.t 0)) [], .mk (some 5) none (.nilck (.t 4)) [1], .mk (some 6) none (.faddr (.t 5) 0) [2, 1], .mk (some 7) none (.mv (.t 0)) [], .mk (some 8) none (.nilck (.t 7)) [4], .mk (some 9) none (.faddr (.t 8) 1) [5, 4], .mk (some 10) none (.mv (.t 0)) [], .mk (some 11) none (.nilck (.t 10)) [7], .mk (some 12) none (.faddr (.t 11) 2) [8, 7], .mk (some 13) none (.mv (.t 0)) [], .mk (some 14) none (.nilck (.t 13)) [10], .mk (some 15) none (.faddr (.t 14) 3) [11, 10], .mk (some 16) none (.mv (.t 0)) [], .mk (some 17) none (.nilck (.t 16)) [13], .mk (some 18) none (.faddr (.t 17) 4) [14, 13], .mk (some 19) none (.mv (.t 0)) [], .mk (some 20) none (.nilck (.t 19)) [16], .mk (some 21) none (.faddr (.t 20) 5) [17, 16], .mk (some 22) none (.mv (.t 0)) [], .mk (some 23) none (.nilck (.t 22)) [19], .mk (some 24) none (.faddr (.t 23) 6) [20, 19], .mk (some 25) none (.mv (.t 0)) [], .mk (some 26) none (.nilck (.t 25)) [22], .mk (some 27) none (.faddr (.t 26) 7) [23, 22], .mk (some 28) none (.mv (.t 0)) [], .mk (some 29) none (.nilck (.t 28)) [25], .mk (some 30) none (.faddr (.t 29) 8) [26, 25], .mk (some 31) none (.mv (.t 0)) [], .mk (some 32) none (.nilck (.t 31)) [28], .mk (some 33) none (.faddr (.t 32) 9) [29, 28], .mk (some 34) none (.bslice false 1 [.nilp] 10 [(0, .t 6), (1, .t 9), (2, .t 12), (3, .t 15), (4, .t 18), (5, .t 21), (6, .t 24), (7, .t 27), (8, .t 30), (9, .t 33)]) [3, 6, 9, 12, 15, 18, 21, 24, 27, 30, 2, 1, 5, 4, 8, 7, 11, 10, 14, 13, 17, 16, 20, 19, 23, 22, 26, 25, 29, 28], .mk (some 35) none (.call (.k (.fn 27 [] [])) [.t 3, .t 34]) [0, 31, 3, 6, 9, 12, 15, 18, 21, 24, 27, 30, 2, 1, 5, 4, 8, 7, 11, 10, 14, 13, 17, 16, 20, 19, 23, 22, 26, 25, 29, 28]]

theorem fn66 : FnIs Tryz.prog 66 36 ac66 [] := ⟨⟨Tryz.f66, _, Tryz.func66, rfl, Tryz.ntmps66, by kernel_rfl, by rw [Tryz.results66], by decide⟩⟩

def ac69 : ACode := .seq
  (.reg false [.mk (some 2) none (.box 2 (.t 0)) []]) (.seq
  (.reg false [.mk (some 4) none (.mv (.k (.int .i64 0))) []]) (.seq (.seq
  (.reg false [.mk (some 5) none (.mv (.t 1)) [], .mk (some 6) none (.nilck (.t 5)) [], .mk (some 7) none (.load none (.t 6)) []])
  (.cond (.t 7)
  (.reg false [.mk (some 4) none (.mv (.k (.int .i64 1))) []]) .skip)) (.seq
  (.reg false [.mk (some 8) none (.faddr (.t 2) 0) [], .mk (some 9) none (.load none (.t 8)) [], .mk (some 10) none (.mv (.t 4)) [], .mk (some 11) none (.call (.t 9) [.t 10]) [], .mk (some 4) none (.mv (.t 11)) []]) (.seq
  (.reg false [.mk (some 12) none (.mv (.t 4)) [], .mk (some 13) none (.bin .eql (.t 12) (.k (.int .i64 0))) [], .mk (some 14) none (.mv (.t 13)) [], .mk (some 15) (some (some 14, false)) (.mv (.t 4)) [], .mk (some 16) (some (some 14, false)) (.bin .eql (.t 15) (.k (.int .i64 1))) [], .mk (some 17) none (.pick (.t 14) (.k (.bool true)) (.t 16)) [], .mk (some 18) none (.call (.k (.fn 67 [] [])) [.t 17]) []])
  (.reg false [.mk (some 19) none (.mv (.t 1)) [], .mk (some 20) none (.mv (.t 4)) [], .mk (some 21) none (.bin .eql (.t 20) (.k (.int .i64 1))) [], .mk (some 22) none (.nilck (.t 19)) [], .mk none none (.store 1 (.t 22) (.t 21)) []])))))

theorem fn69 : FnIs Tryz.prog 69 23 ac69 [] := ⟨⟨Tryz.f69, _, Tryz.func69, rfl, Tryz.ntmps69, by kernel_rfl, by rw [Tryz.results69], by decide⟩⟩

def ac71 : ACode := .seq
  (.reg false [.mk (some 2) none (.box 2 (.t 0)) []])
  (.reg true [.mk (some 4) none (.load (some 2) (.t 2)) [], .mk (some 5) none (.mv (.t 1)) [], .mk (some 6) none (.nilck (.t 5)) [1], .mk (some 7) none (.faddr (.t 6) 0) [2, 1], .mk (some 8) none (.mv (.t 1)) [], .mk (some 9) none (.nilck (.t 8)) [4], .mk (some 10) none (.faddr (.t 9) 1) [5, 4], .mk (some 11) none (.mv (.t 1)) [], .mk (some 12) none (.nilck (.t 11)) [7], .mk (some 13) none (.faddr (.t 12) 2) [8, 7], .mk (some 14) none (.mv (.t 1)) [], .mk (some 15) none (.nilck (.t 14)) [10], .mk (some 16) none (.faddr (.t 15) 3) [11, 10], .mk (some 17) none (.mv (.t 1)) [], .mk (some 18) none (.nilck (.t 17)) [13], .mk (some 19) none (.faddr (.t 18) 4) [14, 13], .mk (some 20) none (.bslice false 1 [.nilp] 5 [(0, .t 7), (1, .t 10), (2, .t 13), (3, .t 16), (4, .t 19)]) [3, 6, 9, 12, 15, 2, 1, 5, 4, 8, 7, 11, 10, 14, 13], .mk (some 21) none (.call (.k (.fn 27 [] [])) [.t 4, .t 20]) [0, 16, 3, 6, 9, 12, 15, 2, 1, 5, 4, 8, 7, 11, 10, 14, 13]])

theorem fn71 : FnIs Tryz.prog 71 22 ac71 [] := ⟨⟨Tryz.f71, _, Tryz.func71, rfl, Tryz.ntmps71, by kernel_rfl, by rw [Tryz.results71], by decide⟩⟩

def ac74 : ACode := .seq
  (.reg true [.mk (some 3) none (.load (some 2) (.t 1)) [], .mk (some 4) none (.mv (.t 0)) [], .mk (some 5) none (.nilck (.t 4)) [1], .mk (some 6) none (.faddr (.t 5) 0) [2, 1], .mk (some 7) none (.bslice false 1 [.nilp] 1 [(0, .t 6)]) [3, 2, 1], .mk (some 8) none (.call (.k (.fn 27 [] [])) [.t 3, .t 7]) [0, 4, 3, 2, 1]])
  (.reg true [.mk (some 9) none (.load (some 2) (.t 1)) [], .mk (some 10) none (.mv (.t 0)) [], .mk (some 11) none (.nilck (.t 10)) [1], .mk (some 12) none (.faddr (.t 11) 1) [2, 1], .mk (some 13) none (.call (.k (.fn 71 [] [])) [.t 9, .t 12]) [0, 3, 2, 1]])

theorem fn74 : FnIs Tryz.prog 74 14 ac74 [] := ⟨⟨Tryz.f74, _, Tryz.func74, rfl, Tryz.ntmps74, by kernel_rfl, by rw [Tryz.results74], by decide⟩⟩

def ac77 : ACode := .reg true [.mk (some 3) none (.load (some 2) (.t 1)) [], .mk (some 4) none (.mv (.t 0)) [], .mk (some 5) none (.nilck (.t 4)) [1], .mk (some 6) none (.faddr (.t 5) 0) [2, 1], .mk (some 7) none (.mv (.t 0)) [], .mk (some 8) none (.nilck (.t 7)) [4], .mk (some 9) none (.faddr (.t 8) 1) [5, 4], .mk (some 10) none (.mv (.t 0)) [], .mk (some 11) none (.nilck (.t 10)) [7], .mk (some 12) none (.faddr (.t 11) 2) [8, 7], .mk (some 13) none (.bslice false 1 [.nilp] 3 [(0, .t 6), (1, .t 9), (2, .t 12)]) [3, 6, 9, 2, 1, 5, 4, 8, 7], .mk (some 14) none (.call (.k (.fn 27 [] [])) [.t 3, .t 13]) [0, 10, 3, 6, 9, 2, 1, 5, 4, 8, 7]]

theorem fn77 : FnIs Tryz.prog 77 15 ac77 [] := ⟨⟨Tryz.f77, _, Tryz.func77, rfl, Tryz.ntmps77, by kernel_rfl, by rw [Tryz.results77], by decide⟩⟩

def ac79 : ACode := .reg false [.mk (some 3) none (.load (some 2) (.t 1)) [], .mk (some 4) none (.mv (.t 0)) [], .mk (some 5) none (.bslice false 1 [.nilp] 1 [(0, .t 4)]) [], .mk (some 6) none (.call (.k (.fn 27 [] [])) [.t 3, .t 5]) []]

theorem fn79 : FnIs Tryz.prog 79 7 ac79 [] := ⟨⟨Tryz.f79, _, Tryz.func79, rfl, Tryz.ntmps79, by kernel_rfl, by rw [Tryz.results79], by decide⟩⟩

def ac82 : ACode := .seq
  (.reg false [.mk (some 1) none (.mv (.k (.int .i64 0))) []]) (.seq
  (.reg false [.mk (some 2) none (.load none (.t 0)) [], .mk (some 3) none (.len (.t 2)) [], .mk (some 1) none (.mv (.t 3)) []]) .ret)

theorem fn82 : FnIs Tryz.prog 82 4 ac82 [.tmp 1] := ⟨⟨Tryz.f82, _, Tryz.func82, rfl, Tryz.ntmps82, by kernel_rfl, by rw [Tryz.results82], by decide⟩⟩

def ac83 : ACode := .seq
  (.reg false [.mk (some 3) none (.mv (.k (.int .i64 0))) []]) (.seq
  (.reg false [.mk (some 5) none (.load none (.t 1)) [], .mk (some 6) none (.len (.t 5)) [], .mk (some 7) none (.bin .gtr (.t 6) (.k (.int .i64 0))) [], .mk (some 8) none (.call (.k (.fn 67 [] [])) [.t 7]) []]) (.seq
  (.reg false [.mk (some 9) none (.load none (.t 1)) [], .mk (some 10) none (.iaddr 1 (.t 9) (.k (.int .i64 0))) [], .mk (some 11) none (.load none (.t 10)) [], .mk (some 4) none (.mv (.t 11)) []]) (.seq
  (.reg false [.mk (some 12) none (.load none (.t 1)) [], .mk (some 13) none (.slice 1 (.t 12) (some (.k (.int .i64 1))) none none) [], .mk none none (.store 1 (.t 1) (.t 13)) []]) (.seq
  (.reg false [.mk (some 14) none (.mv (.t 4)) [], .mk (some 3) none (.mv (.t 14)) []]) .ret))))

theorem fn83 : FnIs Tryz.prog 83 15 ac83 [.tmp 3] := ⟨⟨Tryz.f83, _, Tryz.func83, rfl, Tryz.ntmps83, by kernel_rfl, by rw [Tryz.results83], by decide⟩⟩

end Go.Bm

/- Abstract code of functions (printed). -/
namespace Go.Bm
open Go Go.Proofs

def ac28 : ACode := .seq
  (.reg false [.mk (some 3) none (.box 2 (.t 0)) [], .mk (some 6) none (.mv (.k (.sl .full 8 []))) []]) (.seq
  (.reg false [.mk (some 9) none (.faddr (.t 3) 0) [], .mk (some 10) none (.load none (.t 9)) [], .mk (some 11) none (.mv (.t 1)) [], .mk (some 12) none (.len (.t 11)) [], .mk (some 13) none (.call (.t 10) [.t 12]) [], .mk (some 7) none (.mv (.t 13)) []]) (.seq (.seq
  (.reg false [.mk (some 14) none (.mv (.t 7)) [], .mk (some 15) none (.mv (.t 1)) [], .mk (some 16) none (.len (.t 15)) [], .mk (some 17) none (.bin .neq (.t 14) (.t 16)) []])
  (.cond (.t 17) (.seq
  (.reg false [.mk (some 18) none (.mv (.t 7)) [], .mk (some 19) none (.bin .leq (.k (.int .i64 0)) (.t 18)) [], .mk (some 20) none (.mv (.t 19)) [], .mk (some 21) (some (some 20, true)) (.mv (.t 7)) [], .mk (some 22) (some (some 20, true)) (.faddr (.t 3) 1) [], .mk (some 23) (some (some 20, true)) (.load none (.t 22)) [], .mk (some 24) (some (some 20, true)) (.call (.t 23) []) [], .mk (some 25) (some (some 20, true)) (.bin .leq (.t 21) (.t 24)) [], .mk (some 26) none (.pick (.t 20) (.t 25) (.k (.bool false))) [], .mk (some 27) none (.call (.k (.fn 67 [] [])) [.t 26]) []])
  (.reg false [.mk (some 28) none (.mv (.t 7)) [], .mk (some 29) none (.mkslice true 8 128 [.bool false, .sl .full 5 [], .sl .full 1 [], .sl .full 6 [], .sl .full 1 [], .int .i64 0, .int .i64 0, .int .i64 0] (.t 28) (.t 28)) [], .mk (some 1) none (.mv (.t 29)) []]))
  (.reg false [.mk (some 30) none (.mv (.t 1)) [], .mk (some 31) none (.call (.k (.fn 68 [] [])) [.t 30]) [], .mk (some 1) none (.mv (.t 31)) []]))) (.seq (.seq
  (.reg false [.mk (some 32) none (.mv (.t 1)) [], .mk (some 33) none (.len (.t 32)) [], .mk (some 34) none (.mv (.k (.int .i64 0))) []])
  (.block 0
  (.loop (.seq
  (.reg false [.mk (some 35) none (.bin .lss (.t 34) (.t 33)) []]) (.seq
  (.cond (.t 35) .skip (.exit 0)) (.seq
  (.block 1 (.seq
  (.reg false [.mk (some 36) none (.mv (.t 34)) [], .mk (some 8) none (.mv (.t 36)) []])
  (.reg false [.mk (some 37) none (.mv (.t 2)) [], .mk (some 38) none (.mv (.t 1)) [], .mk (some 39) none (.mv (.t 8)) [], .mk (some 40) none (.iaddr 8 (.t 38) (.t 39)) [], .mk (some 41) none (.call (.t 37) [.t 40]) []])))
  (.reg false [.mk (some 42) none (.bin .add (.t 34) (.k (.int .i64 1))) [], .mk (some 34) none (.mv (.t 42)) []]))))))) (.seq
  (.reg false [.mk (some 43) none (.mv (.t 1)) [], .mk (some 6) none (.mv (.t 43)) []]) .ret))))

theorem fn28 : FnIs Tryz.prog 28 44 ac28 [.tmp 6] := ⟨⟨Tryz.f28, _, Tryz.func28, rfl, Tryz.ntmps28, by kernel_rfl, by rw [Tryz.results28], by decide⟩⟩

def ac31 : ACode := .seq
  (.reg false [.mk (some 3) none (.box 2 (.t 0)) [], .mk (some 6) none (.mv (.k (.sl .full 3 []))) []]) (.seq
  (.reg false [.mk (some 9) none (.faddr (.t 3) 0) [], .mk (some 10) none (.load none (.t 9)) [], .mk (some 11) none (.mv (.t 1)) [], .mk (some 12) none (.len (.t 11)) [], .mk (some 13) none (.call (.t 10) [.t 12]) [], .mk (some 7) none (.mv (.t 13)) []]) (.seq (.seq
  (.reg false [.mk (some 14) none (.mv (.t 7)) [], .mk (some 15) none (.mv (.t 1)) [], .mk (some 16) none (.len (.t 15)) [], .mk (some 17) none (.bin .neq (.t 14) (.t 16)) []])
  (.cond (.t 17) (.seq
  (.reg false [.mk (some 18) none (.mv (.t 7)) [], .mk (some 19) none (.bin .leq (.k (.int .i64 0)) (.t 18)) [], .mk (some 20) none (.mv (.t 19)) [], .mk (some 21) (some (some 20, true)) (.mv (.t 7)) [], .mk (some 22) (some (some 20, true)) (.faddr (.t 3) 1) [], .mk (some 23) (some (some 20, true)) (.load none (.t 22)) [], .mk (some 24) (some (some 20, true)) (.call (.t 23) []) [], .mk (some 25) (some (some 20, true)) (.bin .leq (.t 21) (.t 24)) [], .mk (some 26) none (.pick (.t 20) (.t 25) (.k (.bool false))) [], .mk (some 27) none (.call (.k (.fn 67 [] [])) [.t 26]) []])
  (.reg false [.mk (some 28) none (.mv (.t 7)) [], .mk (some 29) none (.mkslice true 3 24 [.int .i64 0, .int .i64 0, .int .i64 0] (.t 28) (.t 28)) [], .mk (some 1) none (.mv (.t 29)) []]))
  (.reg false [.mk (some 30) none (.mv (.t 1)) [], .mk (some 31) none (.call (.k (.fn 75 [] [])) [.t 30]) [], .mk (some 1) none (.mv (.t 31)) []]))) (.seq (.seq
  (.reg false [.mk (some 32) none (.mv (.t 1)) [], .mk (some 33) none (.len (.t 32)) [], .mk (some 34) none (.mv (.k (.int .i64 0))) []])
  (.block 0
  (.loop (.seq
  (.reg false [.mk (some 35) none (.bin .lss (.t 34) (.t 33)) []]) (.seq
  (.cond (.t 35) .skip (.exit 0)) (.seq
  (.block 1 (.seq
  (.reg false [.mk (some 36) none (.mv (.t 34)) [], .mk (some 8) none (.mv (.t 36)) []])
  (.reg false [.mk (some 37) none (.mv (.t 2)) [], .mk (some 38) none (.mv (.t 1)) [], .mk (some 39) none (.mv (.t 8)) [], .mk (some 40) none (.iaddr 3 (.t 38) (.t 39)) [], .mk (some 41) none (.call (.t 37) [.t 40]) []])))
  (.reg false [.mk (some 42) none (.bin .add (.t 34) (.k (.int .i64 1))) [], .mk (some 34) none (.mv (.t 42)) []]))))))) (.seq
  (.reg false [.mk (some 43) none (.mv (.t 1)) [], .mk (some 6) none (.mv (.t 43)) []]) .ret))))

theorem fn31 : FnIs Tryz.prog 31 44 ac31 [.tmp 6] := ⟨⟨Tryz.f31, _, Tryz.func31, rfl, Tryz.ntmps31, by kernel_rfl, by rw [Tryz.results31], by decide⟩⟩

def ac64 : ACode := .seq
  (.reg false [.mk (some 3) none (.box 2 (.t 0)) [], .mk (some 6) none (.mv (.k (.sl .full 11 []))) []]) (.seq
  (.reg false [.mk (some 9) none (.faddr (.t 3) 0) [], .mk (some 10) none (.load none (.t 9)) [], .mk (some 11) none (.mv (.t 1)) [], .mk (some 12) none (.len (.t 11)) [], .mk (some 13) none (.call (.t 10) [.t 12]) [], .mk (some 7) none (.mv (.t 13)) []]) (.seq (.seq
  (.reg false [.mk (some 14) none (.mv (.t 7)) [], .mk (some 15) none (.mv (.t 1)) [], .mk (some 16) none (.len (.t 15)) [], .mk (some 17) none (.bin .neq (.t 14) (.t 16)) []])
  (.cond (.t 17) (.seq
  (.reg false [.mk (some 18) none (.mv (.t 7)) [], .mk (some 19) none (.bin .leq (.k (.int .i64 0)) (.t 18)) [], .mk (some 20) none (.mv (.t 19)) [], .mk (some 21) (some (some 20, true)) (.mv (.t 7)) [], .mk (some 22) (some (some 20, true)) (.faddr (.t 3) 1) [], .mk (some 23) (some (some 20, true)) (.load none (.t 22)) [], .mk (some 24) (some (some 20, true)) (.call (.t 23) []) [], .mk (some 25) (some (some 20, true)) (.bin .leq (.t 21) (.t 24)) [], .mk (some 26) none (.pick (.t 20) (.t 25) (.k (.bool false))) [], .mk (some 27) none (.call (.k (.fn 67 [] [])) [.t 26]) []])
  (.reg false [.mk (some 28) none (.mv (.t 7)) [], .mk (some 29) none (.mkslice true 11 104 [.int .i64 0, .int .i64 0, .int .i64 0, .int .i64 0, .int .i64 0, .int .i64 0, .int .i64 0, .int .i64 0, .int .i64 0, .sl .full 3 [], .int .i64 0] (.t 28) (.t 28)) [], .mk (some 1) none (.mv (.t 29)) []]))
  (.reg false [.mk (some 30) none (.mv (.t 1)) [], .mk (some 31) none (.call (.k (.fn 139 [] [])) [.t 30]) [], .mk (some 1) none (.mv (.t 31)) []]))) (.seq (.seq
  (.reg false [.mk (some 32) none (.mv (.t 1)) [], .mk (some 33) none (.len (.t 32)) [], .mk (some 34) none (.mv (.k (.int .i64 0))) []])
  (.block 0
  (.loop (.seq
  (.reg false [.mk (some 35) none (.bin .lss (.t 34) (.t 33)) []]) (.seq
  (.cond (.t 35) .skip (.exit 0)) (.seq
  (.block 1 (.seq
  (.reg false [.mk (some 36) none (.mv (.t 34)) [], .mk (some 8) none (.mv (.t 36)) []])
  (.reg false [.mk (some 37) none (.mv (.t 2)) [], .mk (some 38) none (.mv (.t 1)) [], .mk (some 39) none (.mv (.t 8)) [], .mk (some 40) none (.iaddr 11 (.t 38) (.t 39)) [], .mk (some 41) none (.call (.t 37) [.t 40]) []])))
  (.reg false [.mk (some 42) none (.bin .add (.t 34) (.k (.int .i64 1))) [], .mk (some 34) none (.mv (.t 42)) []]))))))) (.seq
  (.reg false [.mk (some 43) none (.mv (.t 1)) [], .mk (some 6) none (.mv (.t 43)) []]) .ret))))

theorem fn64 : FnIs Tryz.prog 64 44 ac64 [.tmp 6] := ⟨⟨Tryz.f64, _, Tryz.func64, rfl, Tryz.ntmps64, by kernel_rfl, by rw [Tryz.results64], by decide⟩⟩

def ac65 : ACode := .seq
  (.reg false [.mk (some 3) none (.box 2 (.t 0)) [], .mk (some 6) none (.mv (.k (.sl .full 10 []))) []]) (.seq
  (.reg false [.mk (some 9) none (.faddr (.t 3) 0) [], .mk (some 10) none (.load none (.t 9)) [], .mk (some 11) none (.mv (.t 1)) [], .mk (some 12) none (.len (.t 11)) [], .mk (some 13) none (.call (.t 10) [.t 12]) [], .mk (some 7) none (.mv (.t 13)) []]) (.seq (.seq
  (.reg false [.mk (some 14) none (.mv (.t 7)) [], .mk (some 15) none (.mv (.t 1)) [], .mk (some 16) none (.len (.t 15)) [], .mk (some 17) none (.bin .neq (.t 14) (.t 16)) []])
  (.cond (.t 17) (.seq
  (.reg false [.mk (some 18) none (.mv (.t 7)) [], .mk (some 19) none (.bin .leq (.k (.int .i64 0)) (.t 18)) [], .mk (some 20) none (.mv (.t 19)) [], .mk (some 21) (some (some 20, true)) (.mv (.t 7)) [], .mk (some 22) (some (some 20, true)) (.faddr (.t 3) 1) [], .mk (some 23) (some (some 20, true)) (.load none (.t 22)) [], .mk (some 24) (some (some 20, true)) (.call (.t 23) []) [], .mk (some 25) (some (some 20, true)) (.bin .leq (.t 21) (.t 24)) [], .mk (some 26) none (.pick (.t 20) (.t 25) (.k (.bool false))) [], .mk (some 27) none (.call (.k (.fn 67 [] [])) [.t 26]) []])
  (.reg false [.mk (some 28) none (.mv (.t 7)) [], .mk (some 29) none (.mkslice true 10 80 [.int .i64 0, .int .i64 0, .int .i64 0, .int .i64 0, .int .i64 0, .int .i64 0, .int .i64 0, .int .i64 0, .int .i64 0, .int .i64 0] (.t 28) (.t 28)) [], .mk (some 1) none (.mv (.t 29)) []]))
  (.reg false [.mk (some 30) none (.mv (.t 1)) [], .mk (some 31) none (.call (.k (.fn 140 [] [])) [.t 30]) [], .mk (some 1) none (.mv (.t 31)) []]))) (.seq (.seq
  (.reg false [.mk (some 32) none (.mv (.t 1)) [], .mk (some 33) none (.len (.t 32)) [], .mk (some 34) none (.mv (.k (.int .i64 0))) []])
  (.block 0
  (.loop (.seq
  (.reg false [.mk (some 35) none (.bin .lss (.t 34) (.t 33)) []]) (.seq
  (.cond (.t 35) .skip (.exit 0)) (.seq
  (.block 1 (.seq
  (.reg false [.mk (some 36) none (.mv (.t 34)) [], .mk (some 8) none (.mv (.t 36)) []])
  (.reg false [.mk (some 37) none (.mv (.t 2)) [], .mk (some 38) none (.mv (.t 1)) [], .mk (some 39) none (.mv (.t 8)) [], .mk (some 40) none (.iaddr 10 (.t 38) (.t 39)) [], .mk (some 41) none (.call (.t 37) [.t 40]) []])))
  (.reg false [.mk (some 42) none (.bin .add (.t 34) (.k (.int .i64 1))) [], .mk (some 34) none (.mv (.t 42)) []]))))))) (.seq
  (.reg false [.mk (some 43) none (.mv (.t 1)) [], .mk (some 6) none (.mv (.t 43)) []]) .ret))))

theorem fn65 : FnIs Tryz.prog 65 44 ac65 [.tmp 6] := ⟨⟨Tryz.f65, _, Tryz.func65, rfl, Tryz.ntmps65, by kernel_rfl, by rw [Tryz.results65], by decide⟩⟩

def ac70 : ACode := .seq
  (.reg false [.mk (some 3) none (.box 2 (.t 0)) [], .mk (some 6) none (.mv (.k (.sl .full 5 []))) []]) (.seq
  (.reg false [.mk (some 9) none (.faddr (.t 3) 0) [], .mk (some 10) none (.load none (.t 9)) [], .mk (some 11) none (.mv (.t 1)) [], .mk (some 12) none (.len (.t 11)) [], .mk (some 13) none (.call (.t 10) [.t 12]) [], .mk (some 7) none (.mv (.t 13)) []]) (.seq (.seq
  (.reg false [.mk (some 14) none (.mv (.t 7)) [], .mk (some 15) none (.mv (.t 1)) [], .mk (some 16) none (.len (.t 15)) [], .mk (some 17) none (.bin .neq (.t 14) (.t 16)) []])
  (.cond (.t 17) (.seq
  (.reg false [.mk (some 18) none (.mv (.t 7)) [], .mk (some 19) none (.bin .leq (.k (.int .i64 0)) (.t 18)) [], .mk (some 20) none (.mv (.t 19)) [], .mk (some 21) (some (some 20, true)) (.mv (.t 7)) [], .mk (some 22) (some (some 20, true)) (.faddr (.t 3) 1) [], .mk (some 23) (some (some 20, true)) (.load none (.t 22)) [], .mk (some 24) (some (some 20, true)) (.call (.t 23) []) [], .mk (some 25) (some (some 20, true)) (.bin .leq (.t 21) (.t 24)) [], .mk (some 26) none (.pick (.t 20) (.t 25) (.k (.bool false))) [], .mk (some 27) none (.call (.k (.fn 67 [] [])) [.t 26]) []])
  (.reg false [.mk (some 28) none (.mv (.t 7)) [], .mk (some 29) none (.mkslice true 5 40 [.int .i64 0, .int .i64 0, .int .i64 0, .int .i64 0, .int .i64 0] (.t 28) (.t 28)) [], .mk (some 1) none (.mv (.t 29)) []]))
  (.reg false [.mk (some 30) none (.mv (.t 1)) [], .mk (some 31) none (.call (.k (.fn 141 [] [])) [.t 30]) [], .mk (some 1) none (.mv (.t 31)) []]))) (.seq (.seq
  (.reg false [.mk (some 32) none (.mv (.t 1)) [], .mk (some 33) none (.len (.t 32)) [], .mk (some 34) none (.mv (.k (.int .i64 0))) []])
  (.block 0
  (.loop (.seq
  (.reg false [.mk (some 35) none (.bin .lss (.t 34) (.t 33)) []]) (.seq
  (.cond (.t 35) .skip (.exit 0)) (.seq
  (.block 1 (.seq
  (.reg false [.mk (some 36) none (.mv (.t 34)) [], .mk (some 8) none (.mv (.t 36)) []])
  (.reg false [.mk (some 37) none (.mv (.t 2)) [], .mk (some 38) none (.mv (.t 1)) [], .mk (some 39) none (.mv (.t 8)) [], .mk (some 40) none (.iaddr 5 (.t 38) (.t 39)) [], .mk (some 41) none (.call (.t 37) [.t 40]) []])))
  (.reg false [.mk (some 42) none (.bin .add (.t 34) (.k (.int .i64 1))) [], .mk (some 34) none (.mv (.t 42)) []]))))))) (.seq
  (.reg false [.mk (some 43) none (.mv (.t 1)) [], .mk (some 6) none (.mv (.t 43)) []]) .ret))))

theorem fn70 : FnIs Tryz.prog 70 44 ac70 [.tmp 6] := ⟨⟨Tryz.f70, _, Tryz.func70, rfl, Tryz.ntmps70, by kernel_rfl, by rw [Tryz.results70], by decide⟩⟩

def ac72 : ACode := .seq
  (.reg false [.mk (some 3) none (.box 2 (.t 0)) [], .mk (some 6) none (.mv (.k (.sl .full 1 []))) []]) (.seq
  (.reg false [.mk (some 9) none (.faddr (.t 3) 0) [], .mk (some 10) none (.load none (.t 9)) [], .mk (some 11) none (.mv (.t 1)) [], .mk (some 12) none (.len (.t 11)) [], .mk (some 13) none (.call (.t 10) [.t 12]) [], .mk (some 7) none (.mv (.t 13)) []]) (.seq (.seq
  (.reg false [.mk (some 14) none (.mv (.t 7)) [], .mk (some 15) none (.mv (.t 1)) [], .mk (some 16) none (.len (.t 15)) [], .mk (some 17) none (.bin .neq (.t 14) (.t 16)) []])
  (.cond (.t 17) (.seq
  (.reg false [.mk (some 18) none (.mv (.t 7)) [], .mk (some 19) none (.bin .leq (.k (.int .i64 0)) (.t 18)) [], .mk (some 20) none (.mv (.t 19)) [], .mk (some 21) (some (some 20, true)) (.mv (.t 7)) [], .mk (some 22) (some (some 20, true)) (.faddr (.t 3) 1) [], .mk (some 23) (some (some 20, true)) (.load none (.t 22)) [], .mk (some 24) (some (some 20, true)) (.call (.t 23) []) [], .mk (some 25) (some (some 20, true)) (.bin .leq (.t 21) (.t 24)) [], .mk (some 26) none (.pick (.t 20) (.t 25) (.k (.bool false))) [], .mk (some 27) none (.call (.k (.fn 67 [] [])) [.t 26]) []])
  (.reg false [.mk (some 28) none (.mv (.t 7)) [], .mk (some 29) none (.mkslice false 1 24 [.sl .full 1 []] (.t 28) (.t 28)) [], .mk (some 1) none (.mv (.t 29)) []]))
  (.reg false [.mk (some 30) none (.mv (.t 1)) [], .mk (some 31) none (.call (.k (.fn 142 [] [])) [.t 30]) [], .mk (some 1) none (.mv (.t 31)) []]))) (.seq (.seq
  (.reg false [.mk (some 32) none (.mv (.t 1)) [], .mk (some 33) none (.len (.t 32)) [], .mk (some 34) none (.mv (.k (.int .i64 0))) []])
  (.block 0
  (.loop (.seq
  (.reg false [.mk (some 35) none (.bin .lss (.t 34) (.t 33)) []]) (.seq
  (.cond (.t 35) .skip (.exit 0)) (.seq
  (.block 1 (.seq
  (.reg false [.mk (some 36) none (.mv (.t 34)) [], .mk (some 8) none (.mv (.t 36)) []])
  (.reg false [.mk (some 37) none (.mv (.t 2)) [], .mk (some 38) none (.mv (.t 1)) [], .mk (some 39) none (.mv (.t 8)) [], .mk (some 40) none (.iaddr 1 (.t 38) (.t 39)) [], .mk (some 41) none (.call (.t 37) [.t 40]) []])))
  (.reg false [.mk (some 42) none (.bin .add (.t 34) (.k (.int .i64 1))) [], .mk (some 34) none (.mv (.t 42)) []]))))))) (.seq
  (.reg false [.mk (some 43) none (.mv (.t 1)) [], .mk (some 6) none (.mv (.t 43)) []]) .ret))))

theorem fn72 : FnIs Tryz.prog 72 44 ac72 [.tmp 6] := ⟨⟨Tryz.f72, _, Tryz.func72, rfl, Tryz.ntmps72, by kernel_rfl, by rw [Tryz.results72], by decide⟩⟩

def ac73 : ACode := .seq
  (.reg false [.mk (some 3) none (.box 2 (.t 0)) [], .mk (some 6) none (.mv (.k (.sl .full 6 []))) []]) (.seq
  (.reg false [.mk (some 9) none (.faddr (.t 3) 0) [], .mk (some 10) none (.load none (.t 9)) [], .mk (some 11) none (.mv (.t 1)) [], .mk (some 12) none (.len (.t 11)) [], .mk (some 13) none (.call (.t 10) [.t 12]) [], .mk (some 7) none (.mv (.t 13)) []]) (.seq (.seq
  (.reg false [.mk (some 14) none (.mv (.t 7)) [], .mk (some 15) none (.mv (.t 1)) [], .mk (some 16) none (.len (.t 15)) [], .mk (some 17) none (.bin .neq (.t 14) (.t 16)) []])
  (.cond (.t 17) (.seq
  (.reg false [.mk (some 18) none (.mv (.t 7)) [], .mk (some 19) none (.bin .leq (.k (.int .i64 0)) (.t 18)) [], .mk (some 20) none (.mv (.t 19)) [], .mk (some 21) (some (some 20, true)) (.mv (.t 7)) [], .mk (some 22) (some (some 20, true)) (.faddr (.t 3) 1) [], .mk (some 23) (some (some 20, true)) (.load none (.t 22)) [], .mk (some 24) (some (some 20, true)) (.call (.t 23) []) [], .mk (some 25) (some (some 20, true)) (.bin .leq (.t 21) (.t 24)) [], .mk (some 26) none (.pick (.t 20) (.t 25) (.k (.bool false))) [], .mk (some 27) none (.call (.k (.fn 67 [] [])) [.t 26]) []])
  (.reg false [.mk (some 28) none (.mv (.t 7)) [], .mk (some 29) none (.mkslice true 6 48 [.int .i64 0, .int .i64 0, .int .i64 0, .int .i64 0, .int .i64 0, .int .i64 0] (.t 28) (.t 28)) [], .mk (some 1) none (.mv (.t 29)) []]))
  (.reg false [.mk (some 30) none (.mv (.t 1)) [], .mk (some 31) none (.call (.k (.fn 143 [] [])) [.t 30]) [], .mk (some 1) none (.mv (.t 31)) []]))) (.seq (.seq
  (.reg false [.mk (some 32) none (.mv (.t 1)) [], .mk (some 33) none (.len (.t 32)) [], .mk (some 34) none (.mv (.k (.int .i64 0))) []])
  (.block 0
  (.loop (.seq
  (.reg false [.mk (some 35) none (.bin .lss (.t 34) (.t 33)) []]) (.seq
  (.cond (.t 35) .skip (.exit 0)) (.seq
  (.block 1 (.seq
  (.reg false [.mk (some 36) none (.mv (.t 34)) [], .mk (some 8) none (.mv (.t 36)) []])
  (.reg false [.mk (some 37) none (.mv (.t 2)) [], .mk (some 38) none (.mv (.t 1)) [], .mk (some 39) none (.mv (.t 8)) [], .mk (some 40) none (.iaddr 6 (.t 38) (.t 39)) [], .mk (some 41) none (.call (.t 37) [.t 40]) []])))
  (.reg false [.mk (some 42) none (.bin .add (.t 34) (.k (.int .i64 1))) [], .mk (some 34) none (.mv (.t 42)) []]))))))) (.seq
  (.reg false [.mk (some 43) none (.mv (.t 1)) [], .mk (some 6) none (.mv (.t 43)) []]) .ret))))

theorem fn73 : FnIs Tryz.prog 73 44 ac73 [.tmp 6] := ⟨⟨Tryz.f73, _, Tryz.func73, rfl, Tryz.ntmps73, by kernel_rfl, by rw [Tryz.results73], by decide⟩⟩

def ac76 : ACode := .seq
  (.reg false [.mk (some 3) none (.box 2 (.t 0)) [], .mk (some 6) none (.mv (.k (.sl .full 3 []))) []]) (.seq
  (.reg false [.mk (some 9) none (.faddr (.t 3) 0) [], .mk (some 10) none (.load none (.t 9)) [], .mk (some 11) none (.mv (.t 1)) [], .mk (some 12) none (.len (.t 11)) [], .mk (some 13) none (.call (.t 10) [.t 12]) [], .mk (some 7) none (.mv (.t 13)) []]) (.seq (.seq
  (.reg false [.mk (some 14) none (.mv (.t 7)) [], .mk (some 15) none (.mv (.t 1)) [], .mk (some 16) none (.len (.t 15)) [], .mk (some 17) none (.bin .neq (.t 14) (.t 16)) []])
  (.cond (.t 17) (.seq
  (.reg false [.mk (some 18) none (.mv (.t 7)) [], .mk (some 19) none (.bin .leq (.k (.int .i64 0)) (.t 18)) [], .mk (some 20) none (.mv (.t 19)) [], .mk (some 21) (some (some 20, true)) (.mv (.t 7)) [], .mk (some 22) (some (some 20, true)) (.faddr (.t 3) 1) [], .mk (some 23) (some (some 20, true)) (.load none (.t 22)) [], .mk (some 24) (some (some 20, true)) (.call (.t 23) []) [], .mk (some 25) (some (some 20, true)) (.bin .leq (.t 21) (.t 24)) [], .mk (some 26) none (.pick (.t 20) (.t 25) (.k (.bool false))) [], .mk (some 27) none (.call (.k (.fn 67 [] [])) [.t 26]) []])
  (.reg false [.mk (some 28) none (.mv (.t 7)) [], .mk (some 29) none (.mkslice true 3 24 [.int .i64 0, .int .i64 0, .int .i64 0] (.t 28) (.t 28)) [], .mk (some 1) none (.mv (.t 29)) []]))
  (.reg false [.mk (some 30) none (.mv (.t 1)) [], .mk (some 31) none (.call (.k (.fn 144 [] [])) [.t 30]) [], .mk (some 1) none (.mv (.t 31)) []]))) (.seq (.seq
  (.reg false [.mk (some 32) none (.mv (.t 1)) [], .mk (some 33) none (.len (.t 32)) [], .mk (some 34) none (.mv (.k (.int .i64 0))) []])
  (.block 0
  (.loop (.seq
  (.reg false [.mk (some 35) none (.bin .lss (.t 34) (.t 33)) []]) (.seq
  (.cond (.t 35) .skip (.exit 0)) (.seq
  (.block 1 (.seq
  (.reg false [.mk (some 36) none (.mv (.t 34)) [], .mk (some 8) none (.mv (.t 36)) []])
  (.reg false [.mk (some 37) none (.mv (.t 2)) [], .mk (some 38) none (.mv (.t 1)) [], .mk (some 39) none (.mv (.t 8)) [], .mk (some 40) none (.iaddr 3 (.t 38) (.t 39)) [], .mk (some 41) none (.call (.t 37) [.t 40]) []])))
  (.reg false [.mk (some 42) none (.bin .add (.t 34) (.k (.int .i64 1))) [], .mk (some 34) none (.mv (.t 42)) []]))))))) (.seq
  (.reg false [.mk (some 43) none (.mv (.t 1)) [], .mk (some 6) none (.mv (.t 43)) []]) .ret))))

theorem fn76 : FnIs Tryz.prog 76 44 ac76 [.tmp 6] := ⟨⟨Tryz.f76, _, Tryz.func76, rfl, Tryz.ntmps76, by kernel_rfl, by rw [Tryz.results76], by decide⟩⟩

def ac78 : ACode := .seq
  (.reg false [.mk (some 3) none (.box 2 (.t 0)) [], .mk (some 6) none (.mv (.k (.sl .full 1 []))) []]) (.seq
  (.reg false [.mk (some 9) none (.faddr (.t 3) 0) [], .mk (some 10) none (.load none (.t 9)) [], .mk (some 11) none (.mv (.t 1)) [], .mk (some 12) none (.len (.t 11)) [], .mk (some 13) none (.call (.t 10) [.t 12]) [], .mk (some 7) none (.mv (.t 13)) []]) (.seq (.seq
  (.reg false [.mk (some 14) none (.mv (.t 7)) [], .mk (some 15) none (.mv (.t 1)) [], .mk (some 16) none (.len (.t 15)) [], .mk (some 17) none (.bin .neq (.t 14) (.t 16)) []])
  (.cond (.t 17) (.seq
  (.reg false [.mk (some 18) none (.mv (.t 7)) [], .mk (some 19) none (.bin .leq (.k (.int .i64 0)) (.t 18)) [], .mk (some 20) none (.mv (.t 19)) [], .mk (some 21) (some (some 20, true)) (.mv (.t 7)) [], .mk (some 22) (some (some 20, true)) (.faddr (.t 3) 1) [], .mk (some 23) (some (some 20, true)) (.load none (.t 22)) [], .mk (some 24) (some (some 20, true)) (.call (.t 23) []) [], .mk (some 25) (some (some 20, true)) (.bin .leq (.t 21) (.t 24)) [], .mk (some 26) none (.pick (.t 20) (.t 25) (.k (.bool false))) [], .mk (some 27) none (.call (.k (.fn 67 [] [])) [.t 26]) []])
  (.reg false [.mk (some 28) none (.mv (.t 7)) [], .mk (some 29) none (.mkslice false 1 8 [.int .i64 0] (.t 28) (.t 28)) [], .mk (some 1) none (.mv (.t 29)) []]))
  (.reg false [.mk (some 30) none (.mv (.t 1)) [], .mk (some 31) none (.call (.k (.fn 145 [] [])) [.t 30]) [], .mk (some 1) none (.mv (.t 31)) []]))) (.seq (.seq
  (.reg false [.mk (some 32) none (.mv (.t 1)) [], .mk (some 33) none (.len (.t 32)) [], .mk (some 34) none (.mv (.k (.int .i64 0))) []])
  (.block 0
  (.loop (.seq
  (.reg false [.mk (some 35) none (.bin .lss (.t 34) (.t 33)) []]) (.seq
  (.cond (.t 35) .skip (.exit 0)) (.seq
  (.block 1 (.seq
  (.reg false [.mk (some 36) none (.mv (.t 34)) [], .mk (some 8) none (.mv (.t 36)) []])
  (.reg false [.mk (some 37) none (.mv (.t 2)) [], .mk (some 38) none (.mv (.t 1)) [], .mk (some 39) none (.mv (.t 8)) [], .mk (some 40) none (.iaddr 1 (.t 38) (.t 39)) [], .mk (some 41) none (.call (.t 37) [.t 40]) []])))
  (.reg false [.mk (some 42) none (.bin .add (.t 34) (.k (.int .i64 1))) [], .mk (some 34) none (.mv (.t 42)) []]))))))) (.seq
  (.reg false [.mk (some 43) none (.mv (.t 1)) [], .mk (some 6) none (.mv (.t 43)) []]) .ret))))

theorem fn78 : FnIs Tryz.prog 78 44 ac78 [.tmp 6] := ⟨⟨Tryz.f78, _, Tryz.func78, rfl, Tryz.ntmps78, by kernel_rfl, by rw [Tryz.results78], by decide⟩⟩

def ac68 : ACode := .seq
  (.reg false [.mk (some 2) none (.mv (.k (.sl .full 8 []))) []]) (.seq (.seq
  (.reg false [.mk (some 3) none (.mv (.t 0)) [], .mk (some 4) none (.isnils false (.t 3)) []])
  (.cond (.t 4) (.seq
  (.reg false [.mk (some 2) none (.mv (.k (.sl .full 8 []))) []]) .ret) .skip)) (.seq
  (.reg false [.mk (some 5) none (.bslice true 8 [.bool false, .sl .full 5 [], .sl .full 1 [], .sl .full 6 [], .sl .full 1 [], .int .i64 0, .int .i64 0, .int .i64 0] 0 []) [], .mk (some 6) none (.mv (.t 0)) [], .mk (some 7) none (.append 8 128 (.t 5) (.t 6)) [], .mk (some 2) none (.mv (.t 7)) []]) .ret))

theorem fn68 : FnIs Tryz.prog 68 8 ac68 [.tmp 2] := ⟨⟨Tryz.f68, _, Tryz.func68, rfl, Tryz.ntmps68, by kernel_rfl, by rw [Tryz.results68], by decide⟩⟩

def ac75 : ACode := .seq
  (.reg false [.mk (some 2) none (.mv (.k (.sl .full 3 []))) []]) (.seq (.seq
  (.reg false [.mk (some 3) none (.mv (.t 0)) [], .mk (some 4) none (.isnils false (.t 3)) []])
  (.cond (.t 4) (.seq
  (.reg false [.mk (some 2) none (.mv (.k (.sl .full 3 []))) []]) .ret) .skip)) (.seq
  (.reg false [.mk (some 5) none (.bslice true 3 [.int .i64 0, .int .i64 0, .int .i64 0] 0 []) [], .mk (some 6) none (.mv (.t 0)) [], .mk (some 7) none (.append 3 24 (.t 5) (.t 6)) [], .mk (some 2) none (.mv (.t 7)) []]) .ret))

theorem fn75 : FnIs Tryz.prog 75 8 ac75 [.tmp 2] := ⟨⟨Tryz.f75, _, Tryz.func75, rfl, Tryz.ntmps75, by kernel_rfl, by rw [Tryz.results75], by decide⟩⟩

def ac139 : ACode := .seq
  (.reg false [.mk (some 2) none (.mv (.k (.sl .full 11 []))) []]) (.seq (.seq
  (.reg false [.mk (some 3) none (.mv (.t 0)) [], .mk (some 4) none (.isnils false (.t 3)) []])
  (.cond (.t 4) (.seq
  (.reg false [.mk (some 2) none (.mv (.k (.sl .full 11 []))) []]) .ret) .skip)) (.seq
  (.reg false [.mk (some 5) none (.bslice true 11 [.int .i64 0, .int .i64 0, .int .i64 0, .int .i64 0, .int .i64 0, .int .i64 0, .int .i64 0, .int .i64 0, .int .i64 0, .sl .full 3 [], .int .i64 0] 0 []) [], .mk (some 6) none (.mv (.t 0)) [], .mk (some 7) none (.append 11 104 (.t 5) (.t 6)) [], .mk (some 2) none (.mv (.t 7)) []]) .ret))

theorem fn139 : FnIs Tryz.prog 139 8 ac139 [.tmp 2] := ⟨⟨Tryz.f139, _, Tryz.func139, rfl, Tryz.ntmps139, by kernel_rfl, by rw [Tryz.results139], by decide⟩⟩

def ac140 : ACode := .seq
  (.reg false [.mk (some 2) none (.mv (.k (.sl .full 10 []))) []]) (.seq (.seq
  (.reg false [.mk (some 3) none (.mv (.t 0)) [], .mk (some 4) none (.isnils false (.t 3)) []])
  (.cond (.t 4) (.seq
  (.reg false [.mk (some 2) none (.mv (.k (.sl .full 10 []))) []]) .ret) .skip)) (.seq
  (.reg false [.mk (some 5) none (.bslice true 10 [.int .i64 0, .int .i64 0, .int .i64 0, .int .i64 0, .int .i64 0, .int .i64 0, .int .i64 0, .int .i64 0, .int .i64 0, .int .i64 0] 0 []) [], .mk (some 6) none (.mv (.t 0)) [], .mk (some 7) none (.append 10 80 (.t 5) (.t 6)) [], .mk (some 2) none (.mv (.t 7)) []]) .ret))

theorem fn140 : FnIs Tryz.prog 140 8 ac140 [.tmp 2] := ⟨⟨Tryz.f140, _, Tryz.func140, rfl, Tryz.ntmps140, by kernel_rfl, by rw [Tryz.results140], by decide⟩⟩

def ac141 : ACode := .seq
  (.reg false [.mk (some 2) none (.mv (.k (.sl .full 5 []))) []]) (.seq (.seq
  (.reg false [.mk (some 3) none (.mv (.t 0)) [], .mk (some 4) none (.isnils false (.t 3)) []])
  (.cond (.t 4) (.seq
  (.reg false [.mk (some 2) none (.mv (.k (.sl .full 5 []))) []]) .ret) .skip)) (.seq
  (.reg false [.mk (some 5) none (.bslice true 5 [.int .i64 0, .int .i64 0, .int .i64 0, .int .i64 0, .int .i64 0] 0 []) [], .mk (some 6) none (.mv (.t 0)) [], .mk (some 7) none (.append 5 40 (.t 5) (.t 6)) [], .mk (some 2) none (.mv (.t 7)) []]) .ret))

theorem fn141 : FnIs Tryz.prog 141 8 ac141 [.tmp 2] := ⟨⟨Tryz.f141, _, Tryz.func141, rfl, Tryz.ntmps141, by kernel_rfl, by rw [Tryz.results141], by decide⟩⟩

def ac142 : ACode := .seq
  (.reg false [.mk (some 2) none (.mv (.k (.sl .full 1 []))) []]) (.seq (.seq
  (.reg false [.mk (some 3) none (.mv (.t 0)) [], .mk (some 4) none (.isnils false (.t 3)) []])
  (.cond (.t 4) (.seq
  (.reg false [.mk (some 2) none (.mv (.k (.sl .full 1 []))) []]) .ret) .skip)) (.seq
  (.reg false [.mk (some 5) none (.bslice false 1 [.sl .full 1 []] 0 []) [], .mk (some 6) none (.mv (.t 0)) [], .mk (some 7) none (.append 1 24 (.t 5) (.t 6)) [], .mk (some 2) none (.mv (.t 7)) []]) .ret))

theorem fn142 : FnIs Tryz.prog 142 8 ac142 [.tmp 2] := ⟨⟨Tryz.f142, _, Tryz.func142, rfl, Tryz.ntmps142, by kernel_rfl, by rw [Tryz.results142], by decide⟩⟩

def ac143 : ACode := .seq
  (.reg false [.mk (some 2) none (.mv (.k (.sl .full 6 []))) []]) (.seq (.seq
  (.reg false [.mk (some 3) none (.mv (.t 0)) [], .mk (some 4) none (.isnils false (.t 3)) []])
  (.cond (.t 4) (.seq
  (.reg false [.mk (some 2) none (.mv (.k (.sl .full 6 []))) []]) .ret) .skip)) (.seq
  (.reg false [.mk (some 5) none (.bslice true 6 [.int .i64 0, .int .i64 0, .int .i64 0, .int .i64 0, .int .i64 0, .int .i64 0] 0 []) [], .mk (some 6) none (.mv (.t 0)) [], .mk (some 7) none (.append 6 48 (.t 5) (.t 6)) [], .mk (some 2) none (.mv (.t 7)) []]) .ret))

theorem fn143 : FnIs Tryz.prog 143 8 ac143 [.tmp 2] := ⟨⟨Tryz.f143, _, Tryz.func143, rfl, Tryz.ntmps143, by kernel_rfl, by rw [Tryz.results143], by decide⟩⟩

def ac144 : ACode := .seq
  (.reg false [.mk (some 2) none (.mv (.k (.sl .full 3 []))) []]) (.seq (.seq
  (.reg false [.mk (some 3) none (.mv (.t 0)) [], .mk (some 4) none (.isnils false (.t 3)) []])
  (.cond (.t 4) (.seq
  (.reg false [.mk (some 2) none (.mv (.k (.sl .full 3 []))) []]) .ret) .skip)) (.seq
  (.reg false [.mk (some 5) none (.bslice true 3 [.int .i64 0, .int .i64 0, .int .i64 0] 0 []) [], .mk (some 6) none (.mv (.t 0)) [], .mk (some 7) none (.append 3 24 (.t 5) (.t 6)) [], .mk (some 2) none (.mv (.t 7)) []]) .ret))

theorem fn144 : FnIs Tryz.prog 144 8 ac144 [.tmp 2] := ⟨⟨Tryz.f144, _, Tryz.func144, rfl, Tryz.ntmps144, by kernel_rfl, by rw [Tryz.results144], by decide⟩⟩

def ac145 : ACode := .seq
  (.reg false [.mk (some 2) none (.mv (.k (.sl .full 1 []))) []]) (.seq (.seq
  (.reg false [.mk (some 3) none (.mv (.t 0)) [], .mk (some 4) none (.isnils false (.t 3)) []])
  (.cond (.t 4) (.seq
  (.reg false [.mk (some 2) none (.mv (.k (.sl .full 1 []))) []]) .ret) .skip)) (.seq
  (.reg false [.mk (some 5) none (.bslice false 1 [.int .i64 0] 0 []) [], .mk (some 6) none (.mv (.t 0)) [], .mk (some 7) none (.append 1 8 (.t 5) (.t 6)) [], .mk (some 2) none (.mv (.t 7)) []]) .ret))

theorem fn145 : FnIs Tryz.prog 145 8 ac145 [.tmp 2] := ⟨⟨Tryz.f145, _, Tryz.func145, rfl, Tryz.ntmps145, by kernel_rfl, by rw [Tryz.results145], by decide⟩⟩

end Go.Bm

/- Abstract code of functions (printed). -/
namespace Go.Bm
open Go Go.Proofs

def ac6 : ACode := .seq
  (.reg false [.mk (some 1) none (.box 22 (.t 0)) [], .mk (some 2) none (.mv (.k (.sl .full 1 []))) []]) (.seq
  (.reg false [.mk (some 3) none (.alloc [.sl .full 1 []]) []]) (.seq
  (.reg false [.mk (some 8) none (.mkfn 14 [] [.t 3]) [], .mk (some 9) none (.build [.nilf, .nilf] [(0, 1, .t 8)]) [], .mk (some 4) none (.alloc [.nilf, .nilf]) [], .mk none none (.store 2 (.t 4) (.t 9)) []]) (.seq
  (.reg false [.mk (some 10) none (.load (some 2) (.t 4)) [], .mk (some 11) none (.call (.k (.fn 15 [] [])) [.t 10, .t 1]) []]) (.seq
  (.reg false [.mk (some 12) none (.load none (.t 3)) [], .mk (some 13) none (.len (.t 12)) [], .mk (some 14) none (.call (.k (.fn 16 [] [])) [.k (.sl .full 1 []), .t 13]) [], .mk (some 5) none (.mv (.t 14)) []]) (.seq (.seq
  (.reg false [.mk (some 15) none (.load none (.t 3)) [], .mk (some 16) none (.len (.t 15)) [], .mk (some 17) none (.mv (.k (.int .i64 0))) []])
  (.block 0
  (.loop (.seq
  (.reg false [.mk (some 18) none (.bin .lss (.t 17) (.t 16)) []]) (.seq
  (.cond (.t 18) .skip (.exit 0)) (.seq
  (.block 1 (.seq
  (.reg false [.mk (some 19) none (.iaddr 1 (.t 15) (.t 17)) [], .mk (some 20) none (.load none (.t 19)) [], .mk (some 7) none (.mv (.t 20)) []])
  (.reg false [.mk (some 21) none (.mv (.t 5)) [], .mk (some 22) none (.mv (.t 7)) [], .mk (some 23) none (.call (.k (.fn 16 [] [])) [.t 21, .t 22]) [], .mk (some 5) none (.mv (.t 23)) []])))
  (.reg false [.mk (some 24) none (.bin .add (.t 17) (.k (.int .i64 1))) [], .mk (some 17) none (.mv (.t 24)) []]))))))) (.seq
  (.reg false [.mk (some 25) none (.mv (.t 5)) [], .mk (some 26) none (.load none (.t 3)) [], .mk (some 27) none (.call (.k (.fn 17 [] [])) [.t 26]) [], .mk (some 28) none (.conv .i64 (.t 27)) [], .mk (some 29) none (.call (.k (.fn 16 [] [])) [.t 25, .t 28]) [], .mk (some 2) none (.mv (.t 29)) []]) .ret))))))

theorem fn6 : FnIs Tryz.prog 6 30 ac6 [.tmp 2] := ⟨⟨Tryz.f6, _, Tryz.func6, rfl, Tryz.ntmps6, by kernel_rfl, by rw [Tryz.results6], by decide⟩⟩

def ac18 : ACode := .seq
  (.reg false [.mk (some 2) none (.mv (.k (.sl .full 22 []))) [], .mk (some 3) none (.mv (.k (.sl .full 1 []))) []]) (.seq
  (.reg false [.mk (some 4) none (.mv (.k (.sl .full 22 []))) []]) (.seq
  (.reg false [.mk (some 5) none (.mv (.k (.int .i64 0))) []])
  (.block 0
  (.loop
  (.block 1 (.seq
  (.reg false [.mk (some 9) none (.mv (.t 0)) [], .mk (some 10) none (.mv (.t 5)) [], .mk (some 11) none (.slice 1 (.t 9) (some (.t 10)) none none) [], .mk (some 12) none (.call (.k (.fn 36 [] [])) [.t 11]) [], .mk (some 8) none (.mv (.t 12)) [], .mk (some 13) none (.extr (.t 8) 0) [], .mk (some 14) none (.extr (.t 8) 1) [], .mk (some 6) none (.alloc [.int .i64 0, .sl .full 1 [], .sl .full 1 [], .sl .full 11 [], .sl .full 10 [], .int .i64 0, .int .i64 0, .sl .full 8 [], .int .i64 0, .int .i64 0, .int .i64 0, .int .i64 0, .int .i64 0, .int .i64 0, .int .i64 0, .int .i64 0, .int .i64 0, .sl .full 3 [], .int .i64 0, .sl .full 3 [], .sl .full 3 [], .sl .full 1 []]) [], .mk none none (.store 22 (.t 6) (.t 13)) [], .mk (some 7) none (.mv (.t 14)) []]) (.seq (.seq
  (.reg false [.mk (some 15) none (.mv (.t 7)) [], .mk (some 16) none (.bin .eql (.t 15) (.k (.int .i64 0))) []])
  (.cond (.t 16) (.seq
  (.reg true [.mk (some 17) none (.mv (.t 4)) [], .mk (some 18) none (.mv (.t 0)) [], .mk (some 19) none (.mv (.t 5)) [], .mk (some 20) none (.mv (.t 5)) [], .mk (some 21) none (.slice 1 (.t 18) none (some (.t 19)) (some (.t 20))) [1, 2, 3], .mk (some 2) none (.mv (.t 17)) [0], .mk (some 3) none (.mv (.t 21)) [4, 5, 1, 2, 3, 0]]) .ret) .skip))
  (.reg false [.mk (some 22) none (.mv (.t 4)) [], .mk (some 23) none (.load (some 22) (.t 6)) [], .mk (some 24) none (.bslice true 22 [.int .i64 0, .sl .full 1 [], .sl .full 1 [], .sl .full 11 [], .sl .full 10 [], .int .i64 0, .int .i64 0, .sl .full 8 [], .int .i64 0, .int .i64 0, .int .i64 0, .int .i64 0, .int .i64 0, .int .i64 0, .int .i64 0, .int .i64 0, .int .i64 0, .sl .full 3 [], .int .i64 0, .sl .full 3 [], .sl .full 3 [], .sl .full 1 []] 1 [(0, .t 23)]) [], .mk (some 25) none (.append 22 320 (.t 22) (.t 24)) [], .mk (some 26) none (.mv (.t 5)) [], .mk (some 27) none (.mv (.t 7)) [], .mk (some 28) none (.bin .add (.t 26) (.t 27)) [], .mk (some 4) none (.mv (.t 25)) [], .mk (some 5) none (.mv (.t 28)) []]))))))))

theorem fn18 : FnIs Tryz.prog 18 29 ac18 [.tmp 2, .tmp 3] := ⟨⟨Tryz.f18, _, Tryz.func18, rfl, Tryz.ntmps18, by kernel_rfl, by rw [Tryz.results18], by decide⟩⟩

def ac7 : ACode := .seq
  (.reg false [.mk (some 2) none (.alloc [.sl .full 22 [], .sl .full 1 []]) []]) (.seq
  (.reg false [.mk (some 6) none (.mv (.t 0)) [], .mk (some 7) none (.call (.k (.fn 18 [] [])) [.t 6]) [], .mk (some 5) none (.mv (.t 7)) [], .mk (some 8) none (.extr (.t 5) 0) [], .mk (some 9) none (.extr (.t 5) 1) [], .mk (some 3) none (.mv (.t 8)) [], .mk (some 4) none (.mv (.t 9)) []]) (.seq
  (.reg false [.mk (some 10) none (.mv (.t 3)) [], .mk (some 11) none (.mv (.t 4)) [], .mk (some 12) none (.build [.sl .full 22 [], .sl .full 1 []] [(0, 1, .t 10), (1, 1, .t 11)]) [], .mk none none (.store 2 (.t 2) (.t 12)) []]) .ret))

theorem fn7 : FnIs Tryz.prog 7 13 ac7 [.cell 2 47] := ⟨⟨Tryz.f7, _, Tryz.func7, rfl, Tryz.ntmps7, by kernel_rfl, by rw [Tryz.results7], by decide⟩⟩

def ac36 : ACode := .seq
  (.reg false [.mk (some 2) none (.alloc [.int .i64 0, .sl .full 1 [], .sl .full 1 [], .sl .full 11 [], .sl .full 10 [], .int .i64 0, .int .i64 0, .sl .full 8 [], .int .i64 0, .int .i64 0, .int .i64 0, .int .i64 0, .int .i64 0, .int .i64 0, .int .i64 0, .int .i64 0, .int .i64 0, .sl .full 3 [], .int .i64 0, .sl .full 3 [], .sl .full 3 [], .sl .full 1 []]) [], .mk (some 3) none (.alloc [.int .i64 0]) []]) (.seq
  (.reg false [.mk (some 9) none (.mkfn 80 [] [.t 2, .t 3]) [], .mk none none (.dfr (.t 9) []) []]) (.seq
  (.reg false [.mk (some 10) none (.mv (.t 0)) [], .mk (some 11) none (.len (.t 10)) [], .mk (some 12) none (.bin .geq (.t 11) (.k (.int .i64 16))) [], .mk (some 13) none (.call (.k (.fn 67 [] [])) [.t 12]) []]) (.seq
  (.reg false [.mk (some 14) none (.mv (.t 0)) [], .mk (some 15) none (.call (.k (.fn 81 [] [])) [.t 14]) [], .mk (some 4) none (.mv (.t 15)) []]) (.seq
  (.reg false [.mk (some 16) none (.mv (.t 4)) [], .mk (some 17) none (.bin .leq (.k (.int .i64 0)) (.t 16)) [], .mk (some 18) none (.mv (.t 17)) [], .mk (some 19) (some (some 18, true)) (.mv (.t 4)) [], .mk (some 20) (some (some 18, true)) (.mv (.t 0)) [], .mk (some 21) (some (some 18, true)) (.len (.t 20)) [], .mk (some 22) (some (some 18, true)) (.bin .quo (.t 21) (.k (.int .i64 8))) [], .mk (some 23) (some (some 18, true)) (.bin .sub (.t 22) (.k (.int .i64 2))) [], .mk (some 24) (some (some 18, true)) (.bin .leq (.t 19) (.t 23)) [], .mk (some 25) none (.pick (.t 18) (.t 24) (.k (.bool false))) [], .mk (some 26) none (.call (.k (.fn 67 [] [])) [.t 25]) []]) (.seq
  (.reg false [.mk (some 5) none (.mv (.k (.sl .full 1 []))) []]) (.seq (.seq
  (.reg false [.mk (some 27) none (.mv (.t 4)) [], .mk (some 28) none (.mv (.k (.int .i64 0))) []])
  (.block 0
  (.loop (.seq
  (.reg false [.mk (some 29) none (.bin .lss (.t 28) (.t 27)) []]) (.seq
  (.cond (.t 29) .skip (.exit 0)) (.seq
  (.block 1 (.seq
  (.reg false [.mk (some 30) none (.mv (.t 28)) [], .mk (some 6) none (.mv (.t 30)) []])
  (.reg false [.mk (some 31) none (.mv (.t 5)) [], .mk (some 32) none (.mv (.t 0)) [], .mk (some 33) none (.mv (.t 6)) [], .mk (some 34) none (.bin .mul (.k (.int .i64 8)) (.t 33)) [], .mk (some 35) none (.bin .add (.k (.int .i64 8)) (.t 34)) [], .mk (some 36) none (.slice 1 (.t 32) (some (.t 35)) none none) [], .mk (some 37) none (.call (.k (.fn 81 [] [])) [.t 36]) [], .mk (some 38) none (.bslice false 1 [.int .i64 0] 1 [(0, .t 37)]) [], .mk (some 39) none (.append 1 8 (.t 31) (.t 38)) [], .mk (some 5) none (.mv (.t 39)) []])))
  (.reg false [.mk (some 40) none (.bin .add (.t 28) (.k (.int .i64 1))) [], .mk (some 28) none (.mv (.t 40)) []]))))))) (.seq
  (.reg false [.mk (some 41) none (.mv (.t 0)) [], .mk (some 42) none (.mv (.t 4)) [], .mk (some 43) none (.bin .mul (.k (.int .i64 8)) (.t 42)) [], .mk (some 44) none (.bin .add (.k (.int .i64 8)) (.t 43)) [], .mk (some 45) none (.slice 1 (.t 41) (some (.t 44)) none none) [], .mk (some 46) none (.call (.k (.fn 81 [] [])) [.t 45]) [], .mk (some 47) none (.mv (.t 5)) [], .mk (some 48) none (.call (.k (.fn 17 [] [])) [.t 47]) [], .mk (some 49) none (.conv .i64 (.t 48)) [], .mk (some 50) none (.bin .eql (.t 46) (.t 49)) [], .mk (some 51) none (.call (.k (.fn 67 [] [])) [.t 50]) []]) (.seq
  (.reg false [.mk (some 52) none (.mv (.t 5)) [], .mk (some 7) none (.alloc [.sl .full 1 []]) [], .mk none none (.store 1 (.t 7) (.t 52)) []]) (.seq
  (.reg false [.mk (some 53) none (.mkfn 82 [] [.t 7]) [], .mk (some 54) none (.build [.nilf, .nilf] [(1, 1, .t 53)]) [], .mk (some 8) none (.alloc [.nilf, .nilf]) [], .mk none none (.store 2 (.t 8) (.t 54)) []]) (.seq
  (.reg false [.mk (some 55) none (.mkfn 83 [] [.t 7]) [], .mk (some 56) none (.faddr (.t 8) 0) [], .mk none none (.store 1 (.t 56) (.t 55)) []]) (.seq
  (.reg false [.mk (some 57) none (.load (some 2) (.t 8)) [], .mk (some 58) none (.call (.k (.fn 15 [] [])) [.t 57, .t 2]) []]) (.seq
  (.reg false [.mk (some 59) none (.load none (.t 7)) [], .mk (some 60) none (.len (.t 59)) [], .mk (some 61) none (.bin .eql (.t 60) (.k (.int .i64 0))) [], .mk (some 62) none (.call (.k (.fn 67 [] [])) [.t 61]) []]) (.seq
  (.reg false [.mk (some 63) none (.load (some 22) (.t 2)) [], .mk (some 64) none (.mv (.t 4)) [], .mk (some 65) none (.bin .mul (.k (.int .i64 8)) (.t 64)) [], .mk (some 66) none (.bin .add (.k (.int .i64 16)) (.t 65)) [], .mk none none (.store 22 (.t 2) (.t 63)) [], .mk none none (.store 1 (.t 3) (.t 66)) []]) .ret)))))))))))))

theorem fn36 : FnIs Tryz.prog 36 67 ac36 [.cell 2 42, .cell 3 3] := ⟨⟨Tryz.f36, _, Tryz.func36, rfl, Tryz.ntmps36, by kernel_rfl, by rw [Tryz.results36], by decide⟩⟩

end Go.Bm

/- Abstract code of functions (printed). -/
namespace Go.Bm
open Go Go.Proofs

def ac80 : ACode := .seq
  (.reg false [.mk (some 5) none .rcv []])
  (.block 0 (.seq
  (.reg false [.mk (some 7) none (.isnil 2 false (.t 5)) []])
  (.cond (.t 7)
  (.reg false [.mk (some 2) none (.mv (.t 5)) []]) (.seq
  (.reg false [.mk (some 8) none (.tass 189 (.agg []) (.t 5)) [], .mk (some 9) none (.extr (.t 8) 1) [], .mk (some 10) none (.extr (.t 8) 0) []])
  (.cond (.t 9) (.seq
  (.reg false [.mk (some 3) none (.alloc []) [], .mk none none (.store 0 (.t 3) (.t 10)) []])
  (.reg false [.mk (some 11) none (.build [.int .i64 0, .sl .full 1 [], .sl .full 1 [], .sl .full 11 [], .sl .full 10 [], .int .i64 0, .int .i64 0, .sl .full 8 [], .int .i64 0, .int .i64 0, .int .i64 0, .int .i64 0, .int .i64 0, .int .i64 0, .int .i64 0, .int .i64 0, .int .i64 0, .sl .full 3 [], .int .i64 0, .sl .full 3 [], .sl .full 3 [], .sl .full 1 []] []) [], .mk none none (.store 22 (.t 0) (.t 11)) [], .mk none none (.store 1 (.t 1) (.k (.int .i64 0))) []])) (.seq
  (.reg false [.mk (some 4) none (.mv (.t 5)) []])
  (.reg false [.mk (some 6) none (.mv (.t 4)) [], .mk none none (.pan (.t 6)) []])))))))

theorem fn80 : FnIs Tryz.prog 80 12 ac80 [] := ⟨⟨Tryz.f80, _, Tryz.func80, rfl, Tryz.ntmps80, by kernel_rfl, by rw [Tryz.results80], by decide⟩⟩

end Go.Bm
