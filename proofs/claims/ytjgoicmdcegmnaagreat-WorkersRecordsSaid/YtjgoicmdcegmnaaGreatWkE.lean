/- Walks: the fixed calls answer true. -/
import Derived.Test.YtjgoicmdcegmnaaGreatWkD
import Derived.Test.YtjgoicmdcegmnaaGreatAcC
import Derived.Test.YtjgoicmdcegmnaaGreatWkC
import Derived.Test.YtjgoicmdcegmnaaGreatAcB

set_option linter.unusedVariables false
set_option linter.unusedSimpArgs false

/- Fixed calls over empty programs: searches, sorts, setups. -/
namespace Go.Bm
open Go Go.Proofs

/-- A loop that is left in its first round. -/
theorem aw_loop0 {P : Program} {x : ACode} {Q : AEx → St → Prop} {σ : St} (h : AW P x (LoopQ (fun _ _ => False) 0 Q) σ) : AW P (.loop x) Q σ := by
  refine aw_loop (fun n σ' => n = 0 ∧ σ' = σ) 0 ⟨rfl, rfl⟩ ?_
  rintro n σ' ⟨rfl, rfl⟩
  refine AW_mono (Q := LoopQ (fun _ _ => False) 0 Q) ?_ (fun h => h) h
  intro e σ2 hq
  cases e with
  | normal => obtain ⟨m, hm, _⟩ := hq; omega
  | exit k => exact hq
  | ret => exact hq
  | pan p => exact hq

/-- A function gives this value, and keeps what there is. -/
def Gives0 (f : Nat) (args : List PV) (v : PV) : Prop := ∀ (μ : Mem) (L : Lv) (K KP : KA), (∀ μ' L', Keeps μ L μ' L' .full → K v μ' L') → ACall Tryz.prog f args μ L K KP

theorem zlt : decide ((0 : Int) < ((0 : Nat) : Int)) = false := by decide

theorem idx_rule (tk : Tok) (g : PV) : Gives0 104 [.sl tk 10 [], g] (.int .i64 (-1)) := by
  intro μ L K KP hK
  refine acall_of_aw mix fn104 (by simp) ?_
  unfold ac104
  simp only [wkB, wkC, kernP, rd, rds, reduceIte, Nat.reduceEqDiff, Nat.reduceAdd, binop, intOp_mul, unop, shiftOp, strOp, isNil, fillElems, fillParts, elemZero, FQ, LeaveA, resA, resPV, resPVs, PV.fits, wkF, PV.leaf, Nat.reduceBEq, Nat.reduceLT, Nat.reduceLeDiff, Int.reduceLT, Int.reduceLE, Int.reduceToNat]
  refine aw_loop0 ?_
  simp only [wkB, wkC, kernP, rd, rds, reduceIte, Nat.reduceEqDiff, Nat.reduceAdd, binop, intOp_mul, unop, shiftOp, strOp, isNil, fillElems, fillParts, elemZero, FQ, LeaveA, resA, resPV, resPVs, PV.fits, wkF, PV.leaf, Nat.reduceBEq, Nat.reduceLT, Nat.reduceLeDiff, Int.reduceLT, Int.reduceLE, Int.reduceToNat, zlt]
  exact ⟨_, rfl, hK _ _ .refl⟩

theorem idx_sum (tk : Tok) (g : PV) : Gives0 105 [.sl tk 11 [], g] (.int .i64 (-1)) := by
  intro μ L K KP hK
  refine acall_of_aw mix fn105 (by simp) ?_
  unfold ac105
  simp only [wkB, wkC, kernP, rd, rds, reduceIte, Nat.reduceEqDiff, Nat.reduceAdd, binop, intOp_mul, unop, shiftOp, strOp, isNil, fillElems, fillParts, elemZero, FQ, LeaveA, resA, resPV, resPVs, PV.fits, wkF, PV.leaf, Nat.reduceBEq, Nat.reduceLT, Nat.reduceLeDiff, Int.reduceLT, Int.reduceLE, Int.reduceToNat]
  refine aw_loop0 ?_
  simp only [wkB, wkC, kernP, rd, rds, reduceIte, Nat.reduceEqDiff, Nat.reduceAdd, binop, intOp_mul, unop, shiftOp, strOp, isNil, fillElems, fillParts, elemZero, FQ, LeaveA, resA, resPV, resPVs, PV.fits, wkF, PV.leaf, Nat.reduceBEq, Nat.reduceLT, Nat.reduceLeDiff, Int.reduceLT, Int.reduceLE, Int.reduceToNat, zlt]
  exact ⟨_, rfl, hK _ _ .refl⟩

theorem idx_def (tk : Tok) (g : PV) : Gives0 118 [.sl tk 12 [], g] (.int .i64 (-1)) := by
  intro μ L K KP hK
  refine acall_of_aw mix fn118 (by simp) ?_
  unfold ac118
  simp only [wkB, wkC, kernP, rd, rds, reduceIte, Nat.reduceEqDiff, Nat.reduceAdd, binop, intOp_mul, unop, shiftOp, strOp, isNil, fillElems, fillParts, elemZero, FQ, LeaveA, resA, resPV, resPVs, PV.fits, wkF, PV.leaf, Nat.reduceBEq, Nat.reduceLT, Nat.reduceLeDiff, Int.reduceLT, Int.reduceLE, Int.reduceToNat]
  refine aw_loop0 ?_
  simp only [wkB, wkC, kernP, rd, rds, reduceIte, Nat.reduceEqDiff, Nat.reduceAdd, binop, intOp_mul, unop, shiftOp, strOp, isNil, fillElems, fillParts, elemZero, FQ, LeaveA, resA, resPV, resPVs, PV.fits, wkF, PV.leaf, Nat.reduceBEq, Nat.reduceLT, Nat.reduceLeDiff, Int.reduceLT, Int.reduceLE, Int.reduceToNat, zlt]
  exact ⟨_, rfl, hK _ _ .refl⟩

theorem neg1 : decide ((-1 : Int) ≥ 0) = false := by decide

theorem con_rule (tk : Tok) (g : PV) : Gives0 44 [.sl tk 10 [], g] (.bool false) := by
  intro μ L K KP hK
  refine acall_of_aw mix fn44 (by simp) ?_
  unfold ac44
  simp only [wkB, wkC, kernP, rd, rds, reduceIte, Nat.reduceEqDiff, Nat.reduceAdd, binop, intOp_mul, unop, shiftOp, strOp, isNil, fillElems, fillParts, elemZero, FQ, LeaveA, resA, resPV, resPVs, PV.fits, wkF, PV.leaf, Nat.reduceBEq, Nat.reduceLT, Nat.reduceLeDiff, Int.reduceLT, Int.reduceLE, Int.reduceToNat]
  refine idx_rule _ _ _ _ _ _ ?_
  intro μ1 L1 k1
  simp only [wkB, wkC, kernP, rd, rds, reduceIte, Nat.reduceEqDiff, Nat.reduceAdd, binop, intOp_mul, unop, shiftOp, strOp, isNil, fillElems, fillParts, elemZero, FQ, LeaveA, resA, resPV, resPVs, PV.fits, wkF, PV.leaf, Nat.reduceBEq, Nat.reduceLT, Nat.reduceLeDiff, Int.reduceLT, Int.reduceLE, Int.reduceToNat, neg1]
  exact ⟨_, rfl, hK _ _ k1⟩

theorem con_sum (tk : Tok) (g : PV) : Gives0 45 [.sl tk 11 [], g] (.bool false) := by
  intro μ L K KP hK
  refine acall_of_aw mix fn45 (by simp) ?_
  unfold ac45
  simp only [wkB, wkC, kernP, rd, rds, reduceIte, Nat.reduceEqDiff, Nat.reduceAdd, binop, intOp_mul, unop, shiftOp, strOp, isNil, fillElems, fillParts, elemZero, FQ, LeaveA, resA, resPV, resPVs, PV.fits, wkF, PV.leaf, Nat.reduceBEq, Nat.reduceLT, Nat.reduceLeDiff, Int.reduceLT, Int.reduceLE, Int.reduceToNat]
  refine idx_sum _ _ _ _ _ _ ?_
  intro μ1 L1 k1
  simp only [wkB, wkC, kernP, rd, rds, reduceIte, Nat.reduceEqDiff, Nat.reduceAdd, binop, intOp_mul, unop, shiftOp, strOp, isNil, fillElems, fillParts, elemZero, FQ, LeaveA, resA, resPV, resPVs, PV.fits, wkF, PV.leaf, Nat.reduceBEq, Nat.reduceLT, Nat.reduceLeDiff, Int.reduceLT, Int.reduceLE, Int.reduceToNat, neg1]
  exact ⟨_, rfl, hK _ _ k1⟩

theorem diff_sum (tk : Tok) (g : PV) : Gives0 46 [.sl tk 11 [], g] (.bool true) := by
  intro μ L K KP hK
  refine acall_of_aw mix fn46 (by simp) ?_
  unfold ac46
  simp only [wkB, wkC, kernP, rd, rds, reduceIte, Nat.reduceEqDiff, Nat.reduceAdd, binop, intOp_mul, unop, shiftOp, strOp, isNil, fillElems, fillParts, elemZero, FQ, LeaveA, resA, resPV, resPVs, PV.fits, wkF, PV.leaf, Nat.reduceBEq, Nat.reduceLT, Nat.reduceLeDiff, Int.reduceLT, Int.reduceLE, Int.reduceToNat]
  intro m hm
  refine aw_loop0 ?_
  simp only [wkB, wkC, kernP, rd, rds, reduceIte, Nat.reduceEqDiff, Nat.reduceAdd, binop, intOp_mul, unop, shiftOp, strOp, isNil, fillElems, fillParts, elemZero, FQ, LeaveA, resA, resPV, resPVs, PV.fits, wkF, PV.leaf, Nat.reduceBEq, Nat.reduceLT, Nat.reduceLeDiff, Int.reduceLT, Int.reduceLE, Int.reduceToNat, zlt, opM]
  refine ⟨[], rfl, ?_⟩
  simp only [wkB, wkC, kernP, rd, rds, reduceIte, Nat.reduceEqDiff, Nat.reduceAdd, binop, intOp_mul, unop, shiftOp, strOp, isNil, fillElems, fillParts, elemZero, FQ, LeaveA, resA, resPV, resPVs, PV.fits, wkF, PV.leaf, Nat.reduceBEq, Nat.reduceLT, Nat.reduceLeDiff, Int.reduceLT, Int.reduceLE, Int.reduceToNat]
  refine ⟨_, rfl, ?_⟩
  exact hK _ _ (Keeps.refl.set hm.1)

/-- What is declared in the examples. -/
abbrev DC : List PV := [.sl .full 3 [.agg [.int .i64 0, .int .i64 20, .int .i64 1], .agg [.int .i64 (-5), .int .i64 5, .int .i64 0]], .sl .full 3 [.agg [.int .i64 0, .int .i64 9, .int .i64 1], .agg [.int .i64 0, .int .i64 100, .int .i64 2]],
  .sl .full 4 [.agg [.int .i64 2, .int .i64 0, .int .i64 15, .int .i64 1]], .sl .full 1 [.int .i64 0, .int .i64 1, .int .i64 3], .int .i64 3, .int .i64 3, .int .i64 2]

/-- The empty program of the examples. -/
abbrev PC : List PV := DC ++ [.sl .full 5 [], .sl .full 12 [], .sl .full 1 []]

theorem declared_ok : Gives0 9 [] (.agg DC) := by
  intro μ L K KP hK
  refine acall_of_aw mix fn9 (by simp) ?_
  unfold ac9
  have hag : aggOf Tryz.prog 54 = some (some 7) := by kernel_rfl
  simp only [wkB, wkC, kernP, rd, rds, reduceIte, Nat.reduceEqDiff, Nat.reduceAdd, binop, intOp_mul, unop, shiftOp, strOp, isNil, fillElems, fillParts, elemZero, FQ, LeaveA, resA, resPV, resPVs, PV.fits, wkF, PV.leaf, Nat.reduceBEq, Nat.reduceLT, Nat.reduceLeDiff, Int.reduceLT, Int.reduceLE, Int.reduceToNat]
  intro q hq
  simp only [wkB, wkC, kernP, rd, rds, reduceIte, Nat.reduceEqDiff, Nat.reduceAdd, binop, intOp_mul, unop, shiftOp, strOp, isNil, fillElems, fillParts, elemZero, FQ, LeaveA, resA, resPV, resPVs, PV.fits, wkF, PV.leaf, Nat.reduceBEq, Nat.reduceLT, Nat.reduceLeDiff, Int.reduceLT, Int.reduceLE, Int.reduceToNat, spl, hag]
  exact ⟨_, rfl, hK _ _ ((Keeps.refl.set hq.1).set hq.1)⟩

theorem le40 : decide (((0 : Nat) : Int) ≤ 40) = true := by decide

theorem right0 : Gives0 22 [.agg PC, .agg [.int .i64 0, .sl .full 10 []], .sl .full 11 []] (.int .i64 0) := by
  intro μ L K KP hK
  refine acall_of_aw mix fn22 (by simp) ?_
  unfold ac22
  simp only [wkB, wkC, kernP, rd, rds, reduceIte, Nat.reduceEqDiff, Nat.reduceAdd, binop, intOp_mul, unop, shiftOp, strOp, isNil, fillElems, fillParts, elemZero, FQ, LeaveA, resA, resPV, resPVs, PV.fits, wkF, PV.leaf, Nat.reduceBEq, Nat.reduceLT, Nat.reduceLeDiff, Int.reduceLT, Int.reduceLE, Int.reduceToNat, DC, le40]
  intro q hq r hr
  refine con_rule _ _ _ _ _ _ ?_
  intro μ1 L1 k1
  simp only [wkB, wkC, kernP, rd, rds, reduceIte, Nat.reduceEqDiff, Nat.reduceAdd, binop, intOp_mul, unop, shiftOp, strOp, isNil, fillElems, fillParts, elemZero, FQ, LeaveA, resA, resPV, resPVs, PV.fits, wkF, PV.leaf, Nat.reduceBEq, Nat.reduceLT, Nat.reduceLeDiff, Int.reduceLT, Int.reduceLE, Int.reduceToNat]
  refine con_sum _ _ _ _ _ _ ?_
  intro μ2 L2 k2
  simp only [wkB, wkC, kernP, rd, rds, reduceIte, Nat.reduceEqDiff, Nat.reduceAdd, binop, intOp_mul, unop, shiftOp, strOp, isNil, fillElems, fillParts, elemZero, FQ, LeaveA, resA, resPV, resPVs, PV.fits, wkF, PV.leaf, Nat.reduceBEq, Nat.reduceLT, Nat.reduceLeDiff, Int.reduceLT, Int.reduceLE, Int.reduceToNat]
  refine diff_sum _ _ _ _ _ _ ?_
  intro μ3 L3 k3
  simp only [wkB, wkC, kernP, rd, rds, reduceIte, Nat.reduceEqDiff, Nat.reduceAdd, binop, intOp_mul, unop, shiftOp, strOp, isNil, fillElems, fillParts, elemZero, FQ, LeaveA, resA, resPV, resPVs, PV.fits, wkF, PV.leaf, Nat.reduceBEq, Nat.reduceLT, Nat.reduceLeDiff, Int.reduceLT, Int.reduceLE, Int.reduceToNat]
  refine ⟨_, rfl, hK _ _ ?_⟩
  have k0 := (Keeps.refl (μ := μ) (L := L)).set (o := .cells (PC)) hq.1
  exact (((((k0.set (k0.fresh hr).1).set (k0.fresh hr).1).call k1).call k2).call k3)

theorem right7 : Gives0 22 [.agg PC, .agg [.int .i64 7, .sl .full 10 []], .sl .full 11 []] (.int .i64 1) := by
  intro μ L K KP hK
  refine acall_of_aw mix fn22 (by simp) ?_
  unfold ac22
  simp only [wkB, wkC, kernP, rd, rds, reduceIte, Nat.reduceEqDiff, Nat.reduceAdd, binop, intOp_mul, unop, shiftOp, strOp, isNil, fillElems, fillParts, elemZero, FQ, LeaveA, resA, resPV, resPVs, PV.fits, wkF, PV.leaf, Nat.reduceBEq, Nat.reduceLT, Nat.reduceLeDiff, Int.reduceLT, Int.reduceLE, Int.reduceToNat, DC, le40]
  intro q hq r hr
  refine ⟨_, rfl, hK _ _ ?_⟩
  have k0 := (Keeps.refl (μ := μ) (L := L)).set (o := .cells (PC)) hq.1
  exact (k0.set (k0.fresh hr).1).set (k0.fresh hr).1

theorem w01 : IntKind.wrap .i64 ((0 : Int) + 1) = 1 := by rw [IntWalk.i64_in _ (by omega)]; rfl
theorem w00 : IntKind.wrap .i64 ((0 : Int) - 0) = 0 := by rw [IntWalk.i64_in _ (by omega)]; rfl
theorem z10 : decide ((1 : Int) < 0) = false := by decide
theorem z012 : decide ((0 : Int) ≤ 12) = true := by decide

theorem ins_int (tk : Tok) : Gives0 191 [.sl tk 1 [], .int .i64 0, .int .i64 0] (.tup []) := by
  intro μ L K KP hK
  refine acall_of_aw mix fn191 (by simp) ?_
  unfold ac191
  simp only [wkB, wkC, kernP, rd, rds, reduceIte, Nat.reduceEqDiff, Nat.reduceAdd, binop, intOp_mul, unop, shiftOp, strOp, isNil, fillElems, fillParts, elemZero, FQ, LeaveA, resA, resPV, resPVs, PV.fits, wkF, PV.leaf, Nat.reduceBEq, Nat.reduceLT, Nat.reduceLeDiff, Int.reduceLT, Int.reduceLE, Int.reduceToNat, w01]
  refine aw_loop0 ?_
  simp only [wkB, wkC, kernP, rd, rds, reduceIte, Nat.reduceEqDiff, Nat.reduceAdd, binop, intOp_mul, unop, shiftOp, strOp, isNil, fillElems, fillParts, elemZero, FQ, LeaveA, resA, resPV, resPVs, PV.fits, wkF, PV.leaf, Nat.reduceBEq, Nat.reduceLT, Nat.reduceLeDiff, Int.reduceLT, Int.reduceLE, Int.reduceToNat, z10]
  exact ⟨_, rfl, hK _ _ .refl⟩

theorem ins_fnd (tk : Tok) (g : PV) : Gives0 248 [.sl tk 3 [], .int .i64 0, .int .i64 0, g] (.tup []) := by
  intro μ L K KP hK
  refine acall_of_aw mix fn248 (by simp) ?_
  unfold ac248
  simp only [wkB, wkC, kernP, rd, rds, reduceIte, Nat.reduceEqDiff, Nat.reduceAdd, binop, intOp_mul, unop, shiftOp, strOp, isNil, fillElems, fillParts, elemZero, FQ, LeaveA, resA, resPV, resPVs, PV.fits, wkF, PV.leaf, Nat.reduceBEq, Nat.reduceLT, Nat.reduceLeDiff, Int.reduceLT, Int.reduceLE, Int.reduceToNat, w01]
  refine aw_loop0 ?_
  simp only [wkB, wkC, kernP, rd, rds, reduceIte, Nat.reduceEqDiff, Nat.reduceAdd, binop, intOp_mul, unop, shiftOp, strOp, isNil, fillElems, fillParts, elemZero, FQ, LeaveA, resA, resPV, resPVs, PV.fits, wkF, PV.leaf, Nat.reduceBEq, Nat.reduceLT, Nat.reduceLeDiff, Int.reduceLT, Int.reduceLE, Int.reduceToNat, z10]
  exact ⟨_, rfl, hK _ _ .refl⟩

theorem pdq_int (tk : Tok) (n : PV) : Gives0 136 [.sl tk 1 [], .int .i64 0, .int .i64 0, n] (.tup []) := by
  intro μ L K KP hK
  refine acall_of_aw mix fn136 (by simp) ?_
  unfold ac136
  simp only [wkB, wkC, kernP, rd, rds, reduceIte, Nat.reduceEqDiff, Nat.reduceAdd, binop, intOp_mul, unop, shiftOp, strOp, isNil, fillElems, fillParts, elemZero, FQ, LeaveA, resA, resPV, resPVs, PV.fits, wkF, PV.leaf, Nat.reduceBEq, Nat.reduceLT, Nat.reduceLeDiff, Int.reduceLT, Int.reduceLE, Int.reduceToNat]
  refine aw_loop0 ?_
  simp only [wkB, wkC, kernP, rd, rds, reduceIte, Nat.reduceEqDiff, Nat.reduceAdd, binop, intOp_mul, unop, shiftOp, strOp, isNil, fillElems, fillParts, elemZero, FQ, LeaveA, resA, resPV, resPVs, PV.fits, wkF, PV.leaf, Nat.reduceBEq, Nat.reduceLT, Nat.reduceLeDiff, Int.reduceLT, Int.reduceLE, Int.reduceToNat, w00, z012]
  refine ins_int _ _ _ _ _ ?_
  intro μ1 L1 k1
  simp only [wkB, wkC, kernP, rd, rds, reduceIte, Nat.reduceEqDiff, Nat.reduceAdd, binop, intOp_mul, unop, shiftOp, strOp, isNil, fillElems, fillParts, elemZero, FQ, LeaveA, resA, resPV, resPVs, PV.fits, wkF, PV.leaf, Nat.reduceBEq, Nat.reduceLT, Nat.reduceLeDiff, Int.reduceLT, Int.reduceLE, Int.reduceToNat]
  exact ⟨_, rfl, hK _ _ k1⟩

theorem pdq_fnd (tk : Tok) (n g : PV) : Gives0 205 [.sl tk 3 [], .int .i64 0, .int .i64 0, n, g] (.tup []) := by
  intro μ L K KP hK
  refine acall_of_aw mix fn205 (by simp) ?_
  unfold ac205
  simp only [wkB, wkC, kernP, rd, rds, reduceIte, Nat.reduceEqDiff, Nat.reduceAdd, binop, intOp_mul, unop, shiftOp, strOp, isNil, fillElems, fillParts, elemZero, FQ, LeaveA, resA, resPV, resPVs, PV.fits, wkF, PV.leaf, Nat.reduceBEq, Nat.reduceLT, Nat.reduceLeDiff, Int.reduceLT, Int.reduceLE, Int.reduceToNat]
  refine aw_loop0 ?_
  simp only [wkB, wkC, kernP, rd, rds, reduceIte, Nat.reduceEqDiff, Nat.reduceAdd, binop, intOp_mul, unop, shiftOp, strOp, isNil, fillElems, fillParts, elemZero, FQ, LeaveA, resA, resPV, resPVs, PV.fits, wkF, PV.leaf, Nat.reduceBEq, Nat.reduceLT, Nat.reduceLeDiff, Int.reduceLT, Int.reduceLE, Int.reduceToNat, w00, z012]
  refine ins_fnd _ _ _ _ _ _ ?_
  intro μ1 L1 k1
  simp only [wkB, wkC, kernP, rd, rds, reduceIte, Nat.reduceEqDiff, Nat.reduceAdd, binop, intOp_mul, unop, shiftOp, strOp, isNil, fillElems, fillParts, elemZero, FQ, LeaveA, resA, resPV, resPVs, PV.fits, wkF, PV.leaf, Nat.reduceBEq, Nat.reduceLT, Nat.reduceLeDiff, Int.reduceLT, Int.reduceLE, Int.reduceToNat]
  exact ⟨_, rfl, hK _ _ k1⟩

theorem get_mk {l : List UInt8} {i : Nat} : (ByteArray.mk (Array.mk l)).data[i]? = l[i]? := by simp
theorem b64 : decide ((0 : Int) ≥ 4294967296) = false := by decide
theorem b16 : decide ((0 : Int) ≥ 65536) = false := by decide
theorem b8 : decide ((0 : Int) ≥ 256) = false := by decide
theorem w8 : IntKind.wrap .u8 (0 : Int) = 0 := IntWalk.u8_in _ (by omega)
theorem t8 : (((0 : UInt8).toNat : Nat) : Int) = 0 := by decide
theorem wz : IntKind.wrap .i64 (0 : Int) = 0 := IntWalk.i64_in _ (by omega)
theorem wzz : IntKind.wrap .i64 ((0 : Int) + 0) = 0 := IntWalk.i64_in _ (by omega)

set_option maxRecDepth 4000 in
theorem len64 : Gives0 201 [.int .u64 0] (.int .i64 0) := by
  intro μ L K KP hK
  refine acall_of_aw mix fn201 (by simp) ?_
  unfold ac201
  simp only [wkB, wkC, kernP, rd, rds, reduceIte, Nat.reduceEqDiff, Nat.reduceAdd, binop, intOp_mul, unop, shiftOp, strOp, isNil, fillElems, fillParts, elemZero, FQ, LeaveA, resA, resPV, resPVs, PV.fits, wkF, PV.leaf, Nat.reduceBEq, Nat.reduceLT, Nat.reduceLeDiff, Int.reduceLT, Int.reduceLE, Int.reduceToNat, b64, b16, b8, w8, get_mk, Int.toNat_zero, Int.le_refl, t8, wz, wzz]
  exact ⟨_, rfl, hK _ _ .refl⟩

end Go.Bm

/- Fixed calls over empty programs: sorted keys, findings. -/
namespace Go.Bm
open Go Go.Proofs

theorem blen : Gives0 137 [.int .u64 0] (.int .i64 0) := by
  intro μ L K KP hK
  refine acall_of_aw mix fn137 (by simp) ?_
  unfold ac137
  simp only [wkB, wkC, kernP, rd, rds, reduceIte, Nat.reduceEqDiff, Nat.reduceAdd, binop, intOp_mul, unop, shiftOp, strOp, isNil, fillElems, fillParts, elemZero, FQ, LeaveA, resA, resPV, resPVs, PV.fits, wkF, PV.leaf, Nat.reduceBEq, Nat.reduceLT, Nat.reduceLeDiff, Int.reduceLT, Int.reduceLE, Int.reduceToNat]
  rw [aw_cond_f rfl]
  simp only [wkB, wkC, kernP, rd, rds, reduceIte, Nat.reduceEqDiff, Nat.reduceAdd, binop, intOp_mul, unop, shiftOp, strOp, isNil, fillElems, fillParts, elemZero, FQ, LeaveA, resA, resPV, resPVs, PV.fits, wkF, PV.leaf, Nat.reduceBEq, Nat.reduceLT, Nat.reduceLeDiff, Int.reduceLT, Int.reduceLE, Int.reduceToNat]
  refine len64 _ _ _ _ ?_
  intro μ1 L1 k1
  simp only [wkB, wkC, kernP, rd, rds, reduceIte, Nat.reduceEqDiff, Nat.reduceAdd, binop, intOp_mul, unop, shiftOp, strOp, isNil, fillElems, fillParts, elemZero, FQ, LeaveA, resA, resPV, resPVs, PV.fits, wkF, PV.leaf, Nat.reduceBEq, Nat.reduceLT, Nat.reduceLeDiff, Int.reduceLT, Int.reduceLE, Int.reduceToNat]
  exact ⟨_, rfl, hK _ _ k1⟩

theorem wu0 : IntKind.wrap .u64 (0 : Int) = 0 := IntWalk.u64_in _ (by omega)
theorem n0 : ((0 : Nat) : Int) = 0 := rfl

theorem sort_int (tk : Tok) : Gives0 61 [.sl tk 1 []] (.tup []) := by
  intro μ L K KP hK
  refine acall_of_aw mix fn61 (by simp) ?_
  unfold ac61
  simp only [wkB, wkC, kernP, rd, rds, reduceIte, Nat.reduceEqDiff, Nat.reduceAdd, binop, intOp_mul, unop, shiftOp, strOp, isNil, fillElems, fillParts, elemZero, FQ, LeaveA, resA, resPV, resPVs, PV.fits, wkF, PV.leaf, Nat.reduceBEq, Nat.reduceLT, Nat.reduceLeDiff, Int.reduceLT, Int.reduceLE, Int.reduceToNat, n0, wu0]
  refine blen _ _ _ _ ?_
  intro μ1 L1 k1
  simp only [wkB, wkC, kernP, rd, rds, reduceIte, Nat.reduceEqDiff, Nat.reduceAdd, binop, intOp_mul, unop, shiftOp, strOp, isNil, fillElems, fillParts, elemZero, FQ, LeaveA, resA, resPV, resPVs, PV.fits, wkF, PV.leaf, Nat.reduceBEq, Nat.reduceLT, Nat.reduceLeDiff, Int.reduceLT, Int.reduceLE, Int.reduceToNat]
  refine pdq_int _ _ _ _ _ _ ?_
  intro μ2 L2 k2
  simp only [wkB, wkC, kernP, rd, rds, reduceIte, Nat.reduceEqDiff, Nat.reduceAdd, binop, intOp_mul, unop, shiftOp, strOp, isNil, fillElems, fillParts, elemZero, FQ, LeaveA, resA, resPV, resPVs, PV.fits, wkF, PV.leaf, Nat.reduceBEq, Nat.reduceLT, Nat.reduceLeDiff, Int.reduceLT, Int.reduceLE, Int.reduceToNat]
  exact ⟨_, rfl, hK _ _ (k1.call k2)⟩

theorem sort_fnd (tk : Tok) (g : PV) : Gives0 154 [.sl tk 3 [], g] (.tup []) := by
  intro μ L K KP hK
  refine acall_of_aw mix fn154 (by simp) ?_
  unfold ac154
  simp only [wkB, wkC, kernP, rd, rds, reduceIte, Nat.reduceEqDiff, Nat.reduceAdd, binop, intOp_mul, unop, shiftOp, strOp, isNil, fillElems, fillParts, elemZero, FQ, LeaveA, resA, resPV, resPVs, PV.fits, wkF, PV.leaf, Nat.reduceBEq, Nat.reduceLT, Nat.reduceLeDiff, Int.reduceLT, Int.reduceLE, Int.reduceToNat, n0, wu0]
  refine blen _ _ _ _ ?_
  intro μ1 L1 k1
  simp only [wkB, wkC, kernP, rd, rds, reduceIte, Nat.reduceEqDiff, Nat.reduceAdd, binop, intOp_mul, unop, shiftOp, strOp, isNil, fillElems, fillParts, elemZero, FQ, LeaveA, resA, resPV, resPVs, PV.fits, wkF, PV.leaf, Nat.reduceBEq, Nat.reduceLT, Nat.reduceLeDiff, Int.reduceLT, Int.reduceLE, Int.reduceToNat]
  refine pdq_fnd _ _ _ _ _ _ _ ?_
  intro μ2 L2 k2
  simp only [wkB, wkC, kernP, rd, rds, reduceIte, Nat.reduceEqDiff, Nat.reduceAdd, binop, intOp_mul, unop, shiftOp, strOp, isNil, fillElems, fillParts, elemZero, FQ, LeaveA, resA, resPV, resPVs, PV.fits, wkF, PV.leaf, Nat.reduceBEq, Nat.reduceLT, Nat.reduceLeDiff, Int.reduceLT, Int.reduceLE, Int.reduceToNat]
  exact ⟨_, rfl, hK _ _ (k1.call k2)⟩

theorem keys_seq {q m iy : Nat} {μ : Mem} {L : Lv} {K KP : KA} (hq : μ q = some (.cells [.mp m])) (hm : μ m = some (.map [])) (hK : ∀ μ' L', Keeps μ L μ' L' .full → K (.tup []) μ' L') : ACall Tryz.prog 155 [.yld iy, .ptr q 0] μ L K KP := by
  refine acall_of_aw mix fn155 (by simp) ?_
  unfold ac155
  simp only [wkB, wkC, kernP, rd, rds, reduceIte, Nat.reduceEqDiff, Nat.reduceAdd, binop, intOp_mul, unop, shiftOp, strOp, isNil, fillElems, fillParts, elemZero, FQ, LeaveA, resA, resPV, resPVs, PV.fits, wkF, PV.leaf, Nat.reduceBEq, Nat.reduceLT, Nat.reduceLeDiff, Int.reduceLT, Int.reduceLE, Int.reduceToNat, hq, opM]
  refine ⟨⟨_, hm⟩, ?_⟩
  intro j hj
  have hmj : m ≠ j := fun e => by rw [e, hj.1] at hm; cases hm
  refine aw_loop0 ?_
  simp only [wkB, wkC, kernP, rd, rds, reduceIte, Nat.reduceEqDiff, Nat.reduceAdd, binop, intOp_mul, unop, shiftOp, strOp, isNil, fillElems, fillParts, elemZero, FQ, LeaveA, resA, resPV, resPVs, PV.fits, wkF, PV.leaf, Nat.reduceBEq, Nat.reduceLT, Nat.reduceLeDiff, Int.reduceLT, Int.reduceLE, Int.reduceToNat, opM]
  refine ⟨m, by simp, by simp [hmj, hm], ?_⟩
  exact ⟨_, rfl, hK _ _ (Keeps.refl.set hj.1)⟩

theorem app_seq {q m : Nat} {μ : Mem} {L : Lv} {K KP : KA} (hq : μ q = some (.cells [.mp m])) (hm : μ m = some (.map [])) (hK : ∀ μ' L', Keeps μ L μ' L' .full → K (.sl .full 3 []) μ' L') : ACall Tryz.prog 204 [.sl .full 3 [], .fn 155 [] [.ptr q 0]] μ L K KP := by
  refine acall_of_aw mix fn204 (by simp) ?_
  unfold ac204
  simp only [wkB, wkC, kernP, rd, rds, reduceIte, Nat.reduceEqDiff, Nat.reduceAdd, binop, intOp_mul, unop, shiftOp, strOp, isNil, fillElems, fillParts, elemZero, FQ, LeaveA, resA, resPV, resPVs, PV.fits, wkF, PV.leaf, Nat.reduceBEq, Nat.reduceLT, Nat.reduceLeDiff, Int.reduceLT, Int.reduceLE, Int.reduceToNat]
  intro b hb
  have hqb : q ≠ b := fun e => by rw [e, hb.1] at hq; cases hq
  have hmb : m ≠ b := fun e => by rw [e, hb.1] at hm; cases hm
  refine aw_rangeF (fid := 155) (first := []) (cap := [.ptr q 0]) (by simp only [wkB, wkC, kernP, rd, rds, reduceIte, Nat.reduceEqDiff, Nat.reduceAdd, binop, intOp_mul, unop, shiftOp, strOp, isNil, fillElems, fillParts, elemZero, FQ, LeaveA, resA, resPV, resPVs, PV.fits, wkF, PV.leaf, Nat.reduceBEq, Nat.reduceLT, Nat.reduceLeDiff, Int.reduceLT, Int.reduceLE, Int.reduceToNat]) ?_
  intro i d hi hd hne
  have hqi : q ≠ i := fun e => by have := hi.1; rw [← e] at this; simp [Mem.set, hqb, hq] at this
  have hqd : q ≠ d := fun e => by have := hd.1; rw [← e] at this; simp [Mem.set, hqb, hq] at this
  have hmi : m ≠ i := fun e => by have := hi.1; rw [← e] at this; simp [Mem.set, hmb, hm] at this
  have hmd : m ≠ d := fun e => by have := hd.1; rw [← e] at this; simp [Mem.set, hmb, hm] at this
  have hbi : b ≠ i := fun e => by have := hi.1; rw [← e] at this; simp [Mem.set] at this
  have hbd : b ≠ d := fun e => by have := hd.1; rw [← e] at this; simp [Mem.set] at this
  refine keys_seq (m := m) (by simp [Mem.set, hqi, hqd, hqb, hq]) (by simp [Mem.set, hmi, hmd, hmb, hm]) ?_
  intro μ1 L1 k1
  have gd : μ1 d = some .dq := by rw [k1.1 d (by simp [Mem.set, hne.symm])]; simp [Mem.set, hne.symm]
  have gb : μ1 b = some (.cells [.sl .full 3 []]) := by rw [k1.1 b (by simp [Mem.set, hbi, hbd])]; simp [Mem.set, hbi, hbd]
  refine ⟨by rw [k1.1 i (by simp [Mem.set])]; simp [Mem.set], ?_⟩
  have gb' : (Mem.del μ1 i) b = some (.cells [.sl .full 3 []]) := by simp [Mem.del, hbi, gb]
  have gd' : (Mem.del μ1 i) d = some .dq := by simp [Mem.del, hne.symm, gd]
  simp only [wkB, wkC, kernP, rd, rds, reduceIte, Nat.reduceEqDiff, Nat.reduceAdd, binop, intOp_mul, unop, shiftOp, strOp, isNil, fillElems, fillParts, elemZero, FQ, LeaveA, resA, resPV, resPVs, PV.fits, wkF, PV.leaf, Nat.reduceBEq, Nat.reduceLT, Nat.reduceLeDiff, Int.reduceLT, Int.reduceLE, Int.reduceToNat, gb', gd']
  refine ⟨_, rfl, hK _ _ ⟨?_, k1.2⟩⟩
  intro x hx
  have xb : x ≠ b := fun e => hx (by rw [e]; exact hb.1)
  have xi : x ≠ i := fun e => by have := hi.1; rw [← e] at this; simp [Mem.set, xb] at this; exact hx this
  have xd : x ≠ d := fun e => by have := hd.1; rw [← e] at this; simp [Mem.set, xb] at this; exact hx this
  simp only [Mem.del, xi, xd, if_false]
  rw [k1.1 x (by simp [Mem.set, xi, xd, xb, hx])]
  simp [Mem.set, xi, xd, xb]

theorem collect {q m : Nat} {μ : Mem} {L : Lv} {K KP : KA} (hq : μ q = some (.cells [.mp m])) (hm : μ m = some (.map [])) (hK : ∀ μ' L', Keeps μ L μ' L' .full → K (.sl .full 3 []) μ' L') : ACall Tryz.prog 153 [.fn 155 [] [.ptr q 0]] μ L K KP := by
  refine acall_of_aw mix fn153 (by simp) ?_
  unfold ac153
  simp only [wkB, wkC, kernP, rd, rds, reduceIte, Nat.reduceEqDiff, Nat.reduceAdd, binop, intOp_mul, unop, shiftOp, strOp, isNil, fillElems, fillParts, elemZero, FQ, LeaveA, resA, resPV, resPVs, PV.fits, wkF, PV.leaf, Nat.reduceBEq, Nat.reduceLT, Nat.reduceLeDiff, Int.reduceLT, Int.reduceLE, Int.reduceToNat]
  refine app_seq hq hm ?_
  intro μ1 L1 k1
  simp only [wkB, wkC, kernP, rd, rds, reduceIte, Nat.reduceEqDiff, Nat.reduceAdd, binop, intOp_mul, unop, shiftOp, strOp, isNil, fillElems, fillParts, elemZero, FQ, LeaveA, resA, resPV, resPVs, PV.fits, wkF, PV.leaf, Nat.reduceBEq, Nat.reduceLT, Nat.reduceLeDiff, Int.reduceLT, Int.reduceLE, Int.reduceToNat]
  exact ⟨_, rfl, hK _ _ k1⟩

theorem sorted_fnd {q m : Nat} {g : PV} {μ : Mem} {L : Lv} {K KP : KA} (hq : μ q = some (.cells [.mp m])) (hm : μ m = some (.map [])) (hK : ∀ μ' L', Keeps μ L μ' L' .full → K (.sl .full 3 []) μ' L') : ACall Tryz.prog 94 [.fn 155 [] [.ptr q 0], g] μ L K KP := by
  refine acall_of_aw mix fn94 (by simp) ?_
  unfold ac94
  simp only [wkB, wkC, kernP, rd, rds, reduceIte, Nat.reduceEqDiff, Nat.reduceAdd, binop, intOp_mul, unop, shiftOp, strOp, isNil, fillElems, fillParts, elemZero, FQ, LeaveA, resA, resPV, resPVs, PV.fits, wkF, PV.leaf, Nat.reduceBEq, Nat.reduceLT, Nat.reduceLeDiff, Int.reduceLT, Int.reduceLE, Int.reduceToNat]
  refine collect hq hm ?_
  intro μ1 L1 k1
  simp only [wkB, wkC, kernP, rd, rds, reduceIte, Nat.reduceEqDiff, Nat.reduceAdd, binop, intOp_mul, unop, shiftOp, strOp, isNil, fillElems, fillParts, elemZero, FQ, LeaveA, resA, resPV, resPVs, PV.fits, wkF, PV.leaf, Nat.reduceBEq, Nat.reduceLT, Nat.reduceLeDiff, Int.reduceLT, Int.reduceLE, Int.reduceToNat]
  refine sort_fnd _ _ _ _ _ _ ?_
  intro μ2 L2 k2
  simp only [wkB, wkC, kernP, rd, rds, reduceIte, Nat.reduceEqDiff, Nat.reduceAdd, binop, intOp_mul, unop, shiftOp, strOp, isNil, fillElems, fillParts, elemZero, FQ, LeaveA, resA, resPV, resPVs, PV.fits, wkF, PV.leaf, Nat.reduceBEq, Nat.reduceLT, Nat.reduceLeDiff, Int.reduceLT, Int.reduceLE, Int.reduceToNat]
  exact ⟨_, rfl, hK _ _ (k1.call k2)⟩

theorem keys_fn {m : Nat} {μ : Mem} {L : Lv} {K KP : KA} (hK : ∀ q, Fresh μ L q → K (.fn 155 [] [.ptr q 0]) (μ.set q (.cells [.mp m])) L) : ACall Tryz.prog 95 [.mp m] μ L K KP := by
  refine acall_of_aw mix fn95 (by simp) ?_
  unfold ac95
  simp only [wkB, wkC, kernP, rd, rds, reduceIte, Nat.reduceEqDiff, Nat.reduceAdd, binop, intOp_mul, unop, shiftOp, strOp, isNil, fillElems, fillParts, elemZero, FQ, LeaveA, resA, resPV, resPVs, PV.fits, wkF, PV.leaf, Nat.reduceBEq, Nat.reduceLT, Nat.reduceLeDiff, Int.reduceLT, Int.reduceLE, Int.reduceToNat]
  intro q hq
  exact ⟨_, rfl, hK q hq⟩

theorem circled {m : Nat} {μ : Mem} {L : Lv} {K KP : KA} (hK : ∀ q, Fresh μ L q → K (.fn 150 [] [.ptr q 0]) (μ.set q (.cells [.mp m])) L) : ACall Tryz.prog 92 [.mp m] μ L K KP := by
  refine acall_of_aw mix fn92 (by simp) ?_
  unfold ac92
  simp only [wkB, wkC, kernP, rd, rds, reduceIte, Nat.reduceEqDiff, Nat.reduceAdd, binop, intOp_mul, unop, shiftOp, strOp, isNil, fillElems, fillParts, elemZero, FQ, LeaveA, resA, resPV, resPVs, PV.fits, wkF, PV.leaf, Nat.reduceBEq, Nat.reduceLT, Nat.reduceLeDiff, Int.reduceLT, Int.reduceLE, Int.reduceToNat]
  intro q hq
  exact ⟨_, rfl, hK q hq⟩

theorem sums0 (tk tk2 : Tok) : Gives0 89 [.agg PC, .sl tk 16 [], .sl tk2 11 []] (.sl .full 11 []) := by
  intro μ L K KP hK
  refine acall_of_aw mix fn89 (by simp) ?_
  unfold ac89
  simp only [wkB, wkC, kernP, rd, rds, reduceIte, Nat.reduceEqDiff, Nat.reduceAdd, binop, intOp_mul, unop, shiftOp, strOp, isNil, fillElems, fillParts, elemZero, FQ, LeaveA, resA, resPV, resPVs, PV.fits, wkF, PV.leaf, Nat.reduceBEq, Nat.reduceLT, Nat.reduceLeDiff, Int.reduceLT, Int.reduceLE, Int.reduceToNat, DC]
  refine aw_loop0 ?_
  simp only [wkB, wkC, kernP, rd, rds, reduceIte, Nat.reduceEqDiff, Nat.reduceAdd, binop, intOp_mul, unop, shiftOp, strOp, isNil, fillElems, fillParts, elemZero, FQ, LeaveA, resA, resPV, resPVs, PV.fits, wkF, PV.leaf, Nat.reduceBEq, Nat.reduceLT, Nat.reduceLeDiff, Int.reduceLT, Int.reduceLE, Int.reduceToNat, zlt]
  exact ⟨_, rfl, hK _ _ .refl⟩

theorem finds0 (tk tk2 : Tok) : Gives0 39 [.agg PC, .sl tk 16 [], .sl tk2 11 []] (.sl .full 3 []) := by
  intro μ L K KP hK
  refine acall_of_aw mix fn39 (by simp) ?_
  unfold ac39
  simp only [wkB, wkC, kernP, rd, rds, reduceIte, Nat.reduceEqDiff, Nat.reduceAdd, binop, intOp_mul, unop, shiftOp, strOp, isNil, fillElems, fillParts, elemZero, FQ, LeaveA, resA, resPV, resPVs, PV.fits, wkF, PV.leaf, Nat.reduceBEq, Nat.reduceLT, Nat.reduceLeDiff, Int.reduceLT, Int.reduceLE, Int.reduceToNat, DC]
  intro m hm
  have k0 := (Keeps.refl (μ := μ) (L := L)).set (o := .map []) hm.1
  refine sums0 _ _ _ _ _ _ ?_
  intro μ1 L1 k1
  have k1 := k0.call k1
  simp only [wkB, wkC, kernP, rd, rds, reduceIte, Nat.reduceEqDiff, Nat.reduceAdd, binop, intOp_mul, unop, shiftOp, strOp, isNil, fillElems, fillParts, elemZero, FQ, LeaveA, resA, resPV, resPVs, PV.fits, wkF, PV.leaf, Nat.reduceBEq, Nat.reduceLT, Nat.reduceLeDiff, Int.reduceLT, Int.reduceLE, Int.reduceToNat, DC]
  refine aw_loop0 ?_
  simp only [wkB, wkC, kernP, rd, rds, reduceIte, Nat.reduceEqDiff, Nat.reduceAdd, binop, intOp_mul, unop, shiftOp, strOp, isNil, fillElems, fillParts, elemZero, FQ, LeaveA, resA, resPV, resPVs, PV.fits, wkF, PV.leaf, Nat.reduceBEq, Nat.reduceLT, Nat.reduceLeDiff, Int.reduceLT, Int.reduceLE, Int.reduceToNat, zlt]
  refine aw_loop0 ?_
  simp only [wkB, wkC, kernP, rd, rds, reduceIte, Nat.reduceEqDiff, Nat.reduceAdd, binop, intOp_mul, unop, shiftOp, strOp, isNil, fillElems, fillParts, elemZero, FQ, LeaveA, resA, resPV, resPVs, PV.fits, wkF, PV.leaf, Nat.reduceBEq, Nat.reduceLT, Nat.reduceLeDiff, Int.reduceLT, Int.reduceLE, Int.reduceToNat, zlt]
  refine circled ?_
  intro q hq
  have k2 := k1.set (o := .cells [.mp m]) (k1.fresh hq).1
  simp only [wkB, wkC, kernP, rd, rds, reduceIte, Nat.reduceEqDiff, Nat.reduceAdd, binop, intOp_mul, unop, shiftOp, strOp, isNil, fillElems, fillParts, elemZero, FQ, LeaveA, resA, resPV, resPVs, PV.fits, wkF, PV.leaf, Nat.reduceBEq, Nat.reduceLT, Nat.reduceLeDiff, Int.reduceLT, Int.reduceLE, Int.reduceToNat]
  intro m2 hm2
  have k3 := k2.set (o := .map []) (k2.fresh hm2).1
  refine aw_loop0 ?_
  simp only [wkB, wkC, kernP, rd, rds, reduceIte, Nat.reduceEqDiff, Nat.reduceAdd, binop, intOp_mul, unop, shiftOp, strOp, isNil, fillElems, fillParts, elemZero, FQ, LeaveA, resA, resPV, resPVs, PV.fits, wkF, PV.leaf, Nat.reduceBEq, Nat.reduceLT, Nat.reduceLeDiff, Int.reduceLT, Int.reduceLE, Int.reduceToNat, zlt]
  refine keys_fn ?_
  intro q2 hq2
  have k4 := k3.set (o := .cells [.mp m2]) (k3.fresh hq2).1
  simp only [wkB, wkC, kernP, rd, rds, reduceIte, Nat.reduceEqDiff, Nat.reduceAdd, binop, intOp_mul, unop, shiftOp, strOp, isNil, fillElems, fillParts, elemZero, FQ, LeaveA, resA, resPV, resPVs, PV.fits, wkF, PV.leaf, Nat.reduceBEq, Nat.reduceLT, Nat.reduceLeDiff, Int.reduceLT, Int.reduceLE, Int.reduceToNat]
  have hne : m2 ≠ q2 := fun e => by have := hq2.1; rw [← e] at this; simp [Mem.set] at this
  refine sorted_fnd (q := q2) (m := m2) (by simp [Mem.set]) (by simp [Mem.set, hne]) ?_
  intro μ2 L2 k5
  simp only [wkB, wkC, kernP, rd, rds, reduceIte, Nat.reduceEqDiff, Nat.reduceAdd, binop, intOp_mul, unop, shiftOp, strOp, isNil, fillElems, fillParts, elemZero, FQ, LeaveA, resA, resPV, resPVs, PV.fits, wkF, PV.leaf, Nat.reduceBEq, Nat.reduceLT, Nat.reduceLeDiff, Int.reduceLT, Int.reduceLE, Int.reduceToNat]
  exact ⟨_, rfl, hK _ _ (k4.call k5)⟩

end Go.Bm

/- Fixed calls over empty programs: workers. -/
namespace Go.Bm
open Go Go.Proofs

theorem order0 : Gives0 51 [.agg PC] (.sl .full 1 []) := by
  intro μ L K KP hK
  refine acall_of_aw mix fn51 (by simp) ?_
  unfold ac51
  simp only [wkB, wkC, kernP, rd, rds, reduceIte, Nat.reduceEqDiff, Nat.reduceAdd, binop, intOp_mul, unop, shiftOp, strOp, isNil, fillElems, fillParts, elemZero, FQ, LeaveA, resA, resPV, resPVs, PV.fits, wkF, PV.leaf, Nat.reduceBEq, Nat.reduceLT, Nat.reduceLeDiff, Int.reduceLT, Int.reduceLE, Int.reduceToNat, DC]
  intro m hm q hq
  have k0 := (Keeps.refl (μ := μ) (L := L)).set (o := .map []) hm.1
  have hqm : q ≠ m := fun e => by have := hq.1; rw [e] at this; simp [Mem.set] at this
  refine aw_loop0 ?_
  simp only [wkB, wkC, kernP, rd, rds, reduceIte, Nat.reduceEqDiff, Nat.reduceAdd, binop, intOp_mul, unop, shiftOp, strOp, isNil, fillElems, fillParts, elemZero, FQ, LeaveA, resA, resPV, resPVs, PV.fits, wkF, PV.leaf, Nat.reduceBEq, Nat.reduceLT, Nat.reduceLeDiff, Int.reduceLT, Int.reduceLE, Int.reduceToNat, zlt, spl]
  refine aw_loop0 ?_
  simp only [wkB, wkC, kernP, rd, rds, reduceIte, Nat.reduceEqDiff, Nat.reduceAdd, binop, intOp_mul, unop, shiftOp, strOp, isNil, fillElems, fillParts, elemZero, FQ, LeaveA, resA, resPV, resPVs, PV.fits, wkF, PV.leaf, Nat.reduceBEq, Nat.reduceLT, Nat.reduceLeDiff, Int.reduceLT, Int.reduceLE, Int.reduceToNat]
  refine idx_def _ _ _ _ _ _ ?_
  intro μ1 L1 k1
  have z : decide ((-1 : Int) < 0) = true := by decide
  simp only [wkB, wkC, kernP, rd, rds, reduceIte, Nat.reduceEqDiff, Nat.reduceAdd, binop, intOp_mul, unop, shiftOp, strOp, isNil, fillElems, fillParts, elemZero, FQ, LeaveA, resA, resPV, resPVs, PV.fits, wkF, PV.leaf, Nat.reduceBEq, Nat.reduceLT, Nat.reduceLeDiff, Int.reduceLT, Int.reduceLE, Int.reduceToNat, z]
  exact ⟨_, rfl, hK _ _ (((k0.set (k0.fresh hq).1).set (k0.fresh hq).1).call k1)⟩

/-- A desk at which nobody has worked. -/
abbrev DK (S : List PV) : List PV := PC ++ S ++ [.sl .full 11 [], .sl .full 16 [], .sl .full 1 []]

theorem look0 {l : Int} (tk : Tok) {μ : Mem} {L : Lv} {K KP : KA} (hK : ∀ q μ' L', Keeps μ L μ' L' .full → μ q = none → μ' q = some (.cells (DK [.int .i64 l, .sl .full 10 []])) → K (.ptr q 0) μ' L') : ACall Tryz.prog 24 [.agg PC, .agg [.int .i64 l, .sl .full 10 []], .sl .full 11 [], .sl tk 22 []] μ L K KP := by
  refine acall_of_aw mix fn24 (by simp) ?_
  unfold ac24
  simp only [wkB, wkC, kernP, rd, rds, reduceIte, Nat.reduceEqDiff, Nat.reduceAdd, binop, intOp_mul, unop, shiftOp, strOp, isNil, fillElems, fillParts, elemZero, FQ, LeaveA, resA, resPV, resPVs, PV.fits, wkF, PV.leaf, Nat.reduceBEq, Nat.reduceLT, Nat.reduceLeDiff, Int.reduceLT, Int.reduceLE, Int.reduceToNat, DC]
  intro a ha b hb
  have hab : ¬ a = b := fun e => by have := hb.1; rw [← e] at this; simp [Mem.set] at this
  simp only [wkB, wkC, kernP, rd, rds, reduceIte, Nat.reduceEqDiff, Nat.reduceAdd, binop, intOp_mul, unop, shiftOp, strOp, isNil, fillElems, fillParts, elemZero, FQ, LeaveA, resA, resPV, resPVs, PV.fits, wkF, PV.leaf, Nat.reduceBEq, Nat.reduceLT, Nat.reduceLeDiff, Int.reduceLT, Int.reduceLE, Int.reduceToNat, hab]
  intro q hq
  have k0 := (Keeps.refl (μ := μ) (L := L)).set (o := .cells PC) ha.1
  have k1 := k0.set (o := .cells [.int .i64 l, .sl .full 10 []]) (k0.fresh hb).1
  have hq0 := k1.fresh hq
  have k2 := k1.set (o := .cells (DK [.int .i64 l, .sl .full 10 []])) hq0.1
  have haq : ¬ a = q := fun e => by have := hq.1; rw [← e] at this; simp [Mem.set, hab] at this
  have hbq : ¬ b = q := fun e => by have := hq.1; rw [← e] at this; simp [Mem.set] at this
  simp only [wkB, wkC, kernP, rd, rds, reduceIte, Nat.reduceEqDiff, Nat.reduceAdd, binop, intOp_mul, unop, shiftOp, strOp, isNil, fillElems, fillParts, elemZero, FQ, LeaveA, resA, resPV, resPVs, PV.fits, wkF, PV.leaf, Nat.reduceBEq, Nat.reduceLT, Nat.reduceLeDiff, Int.reduceLT, Int.reduceLE, Int.reduceToNat, hab, haq, hbq, DC]
  refine order0 _ _ _ _ ?_
  intro μ1 L1 k3
  have gq : μ1 q = some (.cells (DK [.int .i64 l, .sl .full 10 []])) := by rw [k3.1 q (by simp [Mem.set])]; simp [Mem.set]
  simp only [wkB, wkC, kernP, rd, rds, reduceIte, Nat.reduceEqDiff, Nat.reduceAdd, binop, intOp_mul, unop, shiftOp, strOp, isNil, fillElems, fillParts, elemZero, FQ, LeaveA, resA, resPV, resPVs, PV.fits, wkF, PV.leaf, Nat.reduceBEq, Nat.reduceLT, Nat.reduceLeDiff, Int.reduceLT, Int.reduceLE, Int.reduceToNat]
  refine aw_loop0 ?_
  simp only [wkB, wkC, kernP, rd, rds, reduceIte, Nat.reduceEqDiff, Nat.reduceAdd, binop, intOp_mul, unop, shiftOp, strOp, isNil, fillElems, fillParts, elemZero, FQ, LeaveA, resA, resPV, resPVs, PV.fits, wkF, PV.leaf, Nat.reduceBEq, Nat.reduceLT, Nat.reduceLeDiff, Int.reduceLT, Int.reduceLE, Int.reduceToNat, zlt, gq, DC]
  refine sort_int _ _ _ _ _ ?_
  intro μ2 L2 k4
  simp only [wkB, wkC, kernP, rd, rds, reduceIte, Nat.reduceEqDiff, Nat.reduceAdd, binop, intOp_mul, unop, shiftOp, strOp, isNil, fillElems, fillParts, elemZero, FQ, LeaveA, resA, resPV, resPVs, PV.fits, wkF, PV.leaf, Nat.reduceBEq, Nat.reduceLT, Nat.reduceLeDiff, Int.reduceLT, Int.reduceLE, Int.reduceToNat]
  have gq2 : μ2 q = some (.cells (DK [.int .i64 l, .sl .full 10 []])) := (k4.1 q (by show μ1 q ≠ none; rw [gq]; simp)).trans gq
  exact ⟨_, rfl, hK q _ _ ((k2.call k3).call k4) hq0.1 gq2⟩

/-- An entry of zeros. -/
abbrev ZE : List PV := [.int .i64 0, .sl .full 1 [], .sl .full 1 [], .sl .full 11 [], .sl .full 10 [], .int .i64 0, .int .i64 0, .sl .full 8 [], .int .i64 0, .int .i64 0, .int .i64 0, .int .i64 0, .int .i64 0, .int .i64 0, .int .i64 0, .int .i64 0, .int .i64 0, .sl .full 3 [], .int .i64 0, .sl .full 3 [], .sl .full 3 [], .sl .full 1 []]

theorem next0 {l w : Int} {q : Nat} {μ : Mem} {L : Lv} {K KP : KA} (hq : μ q = some (.cells (DK [.int .i64 l, .sl .full 10 []]))) (hK : ∀ μ' L', Keeps μ L μ' L' .full → K (.tup [.agg ZE, .bool false]) μ' L') : ACall Tryz.prog 23 [.ptr q 0, .int .i64 w] μ L K KP := by
  refine acall_of_aw mix fn23 (by simp) ?_
  unfold ac23
  have hag : aggOf Tryz.prog 42 = some (some 22) := by kernel_rfl
  simp only [wkB, wkC, kernP, rd, rds, reduceIte, Nat.reduceEqDiff, Nat.reduceAdd, binop, intOp_mul, unop, shiftOp, strOp, isNil, fillElems, fillParts, elemZero, FQ, LeaveA, resA, resPV, resPVs, PV.fits, wkF, PV.leaf, Nat.reduceBEq, Nat.reduceLT, Nat.reduceLeDiff, Int.reduceLT, Int.reduceLE, Int.reduceToNat]
  intro r hr
  have hrq : ¬ q = r := fun e => by rw [e, hr.1] at hq; cases hq
  have z : (((0 : Nat) : Int) == 0) = true := rfl
  simp only [wkB, wkC, kernP, rd, rds, reduceIte, Nat.reduceEqDiff, Nat.reduceAdd, binop, intOp_mul, unop, shiftOp, strOp, isNil, fillElems, fillParts, elemZero, FQ, LeaveA, resA, resPV, resPVs, PV.fits, wkF, PV.leaf, Nat.reduceBEq, Nat.reduceLT, Nat.reduceLeDiff, Int.reduceLT, Int.reduceLE, Int.reduceToNat, hrq, hq, z, spl, DK, PC, DC, hag]
  refine ⟨_, rfl, hK _ _ ((Keeps.refl.set hr.1).set hr.1)⟩

theorem recov0 (tk : Tok) {μ : Mem} {L : Lv} {K KP : KA} (hK : ∀ tk' μ' L', Keeps μ L μ' L' .full → K (.tup [.sl tk' 22 [], .sl .full 1 []]) μ' L') : ACall Tryz.prog 18 [.sl tk 1 []] μ L K KP := by
  refine recov_ok (rs := []) (by simp) (by simp) ⟨by simp, recEnd_nil⟩ ?_
  intro tk' es μ' L' h1 h2
  have : es = [] := List.eq_nil_of_length_eq_zero (All2.length h1)
  subst this
  exact hK tk' μ' L' ⟨h2.1, .inl rfl, fun c hc => ⟨(h2.2.2 c hc).1, by simp⟩⟩

theorem work0 {l : Int} (hl : Gives0 22 [.agg PC, .agg [.int .i64 l, .sl .full 10 []], .sl .full 11 []] (.int .i64 0)) {μ : Mem} {L : Lv} {K KP : KA} (hK : ∀ j μ' L', Keeps μ L μ' L' .full → K (.slv j 0 0 1) μ' L') :
    ACall Tryz.prog 11 [.agg PC, .agg [.int .i64 l, .sl .full 10 []], .sl .full 11 [], .sl .full 1 [], .int .i64 0, .int .i64 100] μ L K KP := by
  refine acall_of_aw mix fn11 (by simp) ?_
  unfold ac11
  simp only [wkB, wkC, kernP, rd, rds, reduceIte, Nat.reduceEqDiff, Nat.reduceAdd, binop, intOp_mul, unop, shiftOp, strOp, isNil, fillElems, fillParts, elemZero, FQ, LeaveA, resA, resPV, resPVs, PV.fits, wkF, PV.leaf, Nat.reduceBEq, Nat.reduceLT, Nat.reduceLeDiff, Int.reduceLT, Int.reduceLE, Int.reduceToNat, DC]
  refine recov0 _ ?_
  intro tk' μ1 L1 k1
  simp only [wkB, wkC, kernP, rd, rds, reduceIte, Nat.reduceEqDiff, Nat.reduceAdd, binop, intOp_mul, unop, shiftOp, strOp, isNil, fillElems, fillParts, elemZero, FQ, LeaveA, resA, resPV, resPVs, PV.fits, wkF, PV.leaf, Nat.reduceBEq, Nat.reduceLT, Nat.reduceLeDiff, Int.reduceLT, Int.reduceLE, Int.reduceToNat, DC]
  refine cloneb_ok (l := []) (.inl ⟨_, rfl⟩) (by simp) ?_
  intro j hj
  have k2 := k1.set (o := .cells (byts [])) (k1.fresh hj).1
  simp only [wkB, wkC, kernP, rd, rds, reduceIte, Nat.reduceEqDiff, Nat.reduceAdd, binop, intOp_mul, unop, shiftOp, strOp, isNil, fillElems, fillParts, elemZero, FQ, LeaveA, resA, resPV, resPVs, PV.fits, wkF, PV.leaf, Nat.reduceBEq, Nat.reduceLT, Nat.reduceLeDiff, Int.reduceLT, Int.reduceLE, Int.reduceToNat, DC]
  refine hl _ _ _ _ ?_
  intro μ2 L2 k3
  have k3 := k2.call k3
  have z : ((0 : Int) != 0) = false := rfl
  simp only [wkB, wkC, kernP, rd, rds, reduceIte, Nat.reduceEqDiff, Nat.reduceAdd, binop, intOp_mul, unop, shiftOp, strOp, isNil, fillElems, fillParts, elemZero, FQ, LeaveA, resA, resPV, resPVs, PV.fits, wkF, PV.leaf, Nat.reduceBEq, Nat.reduceLT, Nat.reduceLeDiff, Int.reduceLT, Int.reduceLE, Int.reduceToNat, z]
  refine aw_loop0 ?_
  have z1 : decide ((100 : Int) > 0) = true := by decide
  simp only [wkB, wkC, kernP, rd, rds, reduceIte, Nat.reduceEqDiff, Nat.reduceAdd, binop, intOp_mul, unop, shiftOp, strOp, isNil, fillElems, fillParts, elemZero, FQ, LeaveA, resA, resPV, resPVs, PV.fits, wkF, PV.leaf, Nat.reduceBEq, Nat.reduceLT, Nat.reduceLeDiff, Int.reduceLT, Int.reduceLE, Int.reduceToNat, z1, DC]
  refine look0 _ ?_
  intro q μ3 L3 k4 k5 k6
  have k4 := k3.call k4
  simp only [wkB, wkC, kernP, rd, rds, reduceIte, Nat.reduceEqDiff, Nat.reduceAdd, binop, intOp_mul, unop, shiftOp, strOp, isNil, fillElems, fillParts, elemZero, FQ, LeaveA, resA, resPV, resPVs, PV.fits, wkF, PV.leaf, Nat.reduceBEq, Nat.reduceLT, Nat.reduceLeDiff, Int.reduceLT, Int.reduceLE, Int.reduceToNat]
  refine next0 k6 ?_
  intro μ4 L4 k7
  have k7 := k4.call k7
  simp only [wkB, wkC, kernP, rd, rds, reduceIte, Nat.reduceEqDiff, Nat.reduceAdd, binop, intOp_mul, unop, shiftOp, strOp, isNil, fillElems, fillParts, elemZero, FQ, LeaveA, resA, resPV, resPVs, PV.fits, wkF, PV.leaf, Nat.reduceBEq, Nat.reduceLT, Nat.reduceLeDiff, Int.reduceLT, Int.reduceLE, Int.reduceToNat, ZE]
  intro i hi
  exact ⟨_, rfl, hK j _ _ ((k7.set (k7.fresh hi).1).set (k7.fresh hi).1)⟩

theorem Keeps.del {μ μ1 : Mem} {L L1 : Lv} {tk : Tok} {q : Nat} (h : Keeps μ L μ1 L1 tk) (hq : μ q = none) : Keeps μ L (μ1.del q) L1 tk := by
  refine ⟨fun x hx => ?_, h.2⟩
  have ne : x ≠ q := fun e => hx (by rw [e]; exact hq)
  simp only [Mem.del, ne, if_false]
  exact h.1 x hx

/-- What a slot points to is frozen. -/
theorem gho_slot {t : Regs} {μ : Mem} {L : Lv} {df : List Dfr} {q n : Nat} {cs : List PV} {S : St → Prop} (hq : μ q = some (.cells cs)) (ht : t n = .ptr q 0) (hS : S ⟨upd t n (.fpp cs), μ.del q, L, df⟩) : GhoS ⟨t, μ, L, df⟩ S := by
  refine GhoS.freezeP (j := q) (cs := cs) (t' := upd t n (.fpp cs)) hq (fun m => ?_) hS
  by_cases e : m = n
  · subst e
    exact .inr ⟨0, ht, by rw [upd_same]; rfl⟩
  · rw [upd_ne _ _ e]; exact .inl (Wk.rfl' _)

theorem finish0 {l : Int} (hl : Gives0 22 [.agg PC, .agg [.int .i64 l, .sl .full 10 []], .sl .full 11 []] (.int .i64 0)) : Gives0 20 [.agg PC, .agg [.int .i64 l, .sl .full 10 []], .sl .full 11 [], .sl .full 1 []] (.tup [.agg [.sl .full 16 [], .sl .full 3 []], .int .i64 0]) := by
  intro μ L K KP hK
  refine acall_of_aw mix fn20 (by simp) ?_
  unfold ac20
  have hag : aggOf Tryz.prog 62 = some (some 2) := by kernel_rfl
  simp only [wkB, wkC, kernP, rd, rds, reduceIte, Nat.reduceEqDiff, Nat.reduceAdd, binop, intOp_mul, unop, shiftOp, strOp, isNil, fillElems, fillParts, elemZero, FQ, LeaveA, resA, resPV, resPVs, PV.fits, wkF, PV.leaf, Nat.reduceBEq, Nat.reduceLT, Nat.reduceLeDiff, Int.reduceLT, Int.reduceLE, Int.reduceToNat, DC]
  intro r hr
  have k0 := (Keeps.refl (μ := μ) (L := L)).set (o := .cells [.sl .full 16 [], .sl .full 3 []]) hr.1
  refine hl _ _ _ _ ?_
  intro μ1 L1 k1
  have k1' := k0.call k1
  have z : ((0 : Int) != 0) = false := rfl
  simp only [wkB, wkC, kernP, rd, rds, reduceIte, Nat.reduceEqDiff, Nat.reduceAdd, binop, intOp_mul, unop, shiftOp, strOp, isNil, fillElems, fillParts, elemZero, FQ, LeaveA, resA, resPV, resPVs, PV.fits, wkF, PV.leaf, Nat.reduceBEq, Nat.reduceLT, Nat.reduceLeDiff, Int.reduceLT, Int.reduceLE, Int.reduceToNat, z]
  refine recov0 _ ?_
  intro tk' μ2 L2 k2
  have k2' := k1'.call k2
  simp only [wkB, wkC, kernP, rd, rds, reduceIte, Nat.reduceEqDiff, Nat.reduceAdd, binop, intOp_mul, unop, shiftOp, strOp, isNil, fillElems, fillParts, elemZero, FQ, LeaveA, resA, resPV, resPVs, PV.fits, wkF, PV.leaf, Nat.reduceBEq, Nat.reduceLT, Nat.reduceLeDiff, Int.reduceLT, Int.reduceLE, Int.reduceToNat, DC]
  refine look0 _ ?_
  intro q μ3 L3 k3 hq0 hq
  have k3' := k2'.call k3
  have g1 : μ1 r = some (.cells [.sl .full 16 [], .sl .full 3 []]) := by rw [k1.1 r (by simp [Mem.set])]; simp [Mem.set]
  have g2 : μ2 r = some (.cells [.sl .full 16 [], .sl .full 3 []]) := by rw [k2.1 r (by rw [g1]; simp), g1]
  have g3 : μ3 r = some (.cells [.sl .full 16 [], .sl .full 3 []]) := by rw [k3.1 r (by rw [g2]; simp), g2]
  have hrq : ¬ r = q := fun e => by rw [e, hq0] at g2; cases g2
  have hqm : μ q = none := by
    cases hm : μ q with
    | none => rfl
    | some o => have := k2'.1 q (by rw [hm]; simp); rw [hq0, hm] at this; cases this
  have k4 := k3'.del hqm
  have g4 : (Mem.del μ3 q) r = some (.cells [.sl .full 16 [], .sl .full 3 []]) := by simp [Mem.del, hrq, g3]
  simp only [wkB, wkC, kernP, rd, rds, reduceIte, Nat.reduceEqDiff, Nat.reduceAdd, binop, intOp_mul, unop, shiftOp, strOp, isNil, fillElems, fillParts, elemZero, FQ, LeaveA, resA, resPV, resPVs, PV.fits, wkF, PV.leaf, Nat.reduceBEq, Nat.reduceLT, Nat.reduceLeDiff, Int.reduceLT, Int.reduceLE, Int.reduceToNat]
  refine gho_intro (gho_slot (n := 12) hq (by simp only [wkB, wkC, kernP, rd, rds, reduceIte, Nat.reduceEqDiff, Nat.reduceAdd, binop, intOp_mul, unop, shiftOp, strOp, isNil, fillElems, fillParts, elemZero, FQ, LeaveA, resA, resPV, resPVs, PV.fits, wkF, PV.leaf, Nat.reduceBEq, Nat.reduceLT, Nat.reduceLeDiff, Int.reduceLT, Int.reduceLE, Int.reduceToNat]) ?_)
  refine aw_draw (by decide) (fun _ _ _ h => h) ?_
  have z2 : (((0 : Nat) : Int) != ((0 : Nat) : Int)) = false := rfl
  simp only [wkB, wkC, kernP, rd, rds, reduceIte, Nat.reduceEqDiff, Nat.reduceAdd, binop, intOp_mul, unop, shiftOp, strOp, isNil, fillElems, fillParts, elemZero, FQ, LeaveA, resA, resPV, resPVs, PV.fits, wkF, PV.leaf, Nat.reduceBEq, Nat.reduceLT, Nat.reduceLeDiff, Int.reduceLT, Int.reduceLE, Int.reduceToNat, DK, PC, DC, z2]
  refine aw_drawF (by decide) (fun _ _ _ h => h) ?_
  simp only [wkB, wkC, kernP, rd, rds, reduceIte, Nat.reduceEqDiff, Nat.reduceAdd, binop, intOp_mul, unop, shiftOp, strOp, isNil, fillElems, fillParts, elemZero, FQ, LeaveA, resA, resPV, resPVs, PV.fits, wkF, PV.leaf, Nat.reduceBEq, Nat.reduceLT, Nat.reduceLeDiff, Int.reduceLT, Int.reduceLE, Int.reduceToNat, DK, PC, DC]
  refine finds0 _ _ _ _ _ _ ?_
  intro μ5 L5 k5
  have g5 : μ5 r = some (.cells [.sl .full 16 [], .sl .full 3 []]) := by rw [k5.1 r (by rw [g4]; simp), g4]
  have k6 := k4.call k5
  simp only [wkB, wkC, kernP, rd, rds, reduceIte, Nat.reduceEqDiff, Nat.reduceAdd, binop, intOp_mul, unop, shiftOp, strOp, isNil, fillElems, fillParts, elemZero, FQ, LeaveA, resA, resPV, resPVs, PV.fits, wkF, PV.leaf, Nat.reduceBEq, Nat.reduceLT, Nat.reduceLeDiff, Int.reduceLT, Int.reduceLE, Int.reduceToNat, g5, spl, hag]
  exact ⟨_, rfl, hK _ _ (k6.set hr.1)⟩

theorem finish7 {l : Int} (hl : Gives0 22 [.agg PC, .agg [.int .i64 l, .sl .full 10 []], .sl .full 11 []] (.int .i64 1)) : Gives0 20 [.agg PC, .agg [.int .i64 l, .sl .full 10 []], .sl .full 11 [], .sl .full 1 []] (.tup [.agg [.sl .full 16 [], .sl .full 3 []], .int .i64 1]) := by
  intro μ L K KP hK
  refine acall_of_aw mix fn20 (by simp) ?_
  unfold ac20
  have hag : aggOf Tryz.prog 62 = some (some 2) := by kernel_rfl
  simp only [wkB, wkC, kernP, rd, rds, reduceIte, Nat.reduceEqDiff, Nat.reduceAdd, binop, intOp_mul, unop, shiftOp, strOp, isNil, fillElems, fillParts, elemZero, FQ, LeaveA, resA, resPV, resPVs, PV.fits, wkF, PV.leaf, Nat.reduceBEq, Nat.reduceLT, Nat.reduceLeDiff, Int.reduceLT, Int.reduceLE, Int.reduceToNat, DC]
  intro r hr
  have k0 := (Keeps.refl (μ := μ) (L := L)).set (o := .cells [.sl .full 16 [], .sl .full 3 []]) hr.1
  refine hl _ _ _ _ ?_
  intro μ1 L1 k1
  have k1' := k0.call k1
  have g1 : μ1 r = some (.cells [.sl .full 16 [], .sl .full 3 []]) := by rw [k1.1 r (by simp [Mem.set])]; simp [Mem.set]
  have z : ((1 : Int) != 0) = true := rfl
  simp only [wkB, wkC, kernP, rd, rds, reduceIte, Nat.reduceEqDiff, Nat.reduceAdd, binop, intOp_mul, unop, shiftOp, strOp, isNil, fillElems, fillParts, elemZero, FQ, LeaveA, resA, resPV, resPVs, PV.fits, wkF, PV.leaf, Nat.reduceBEq, Nat.reduceLT, Nat.reduceLeDiff, Int.reduceLT, Int.reduceLE, Int.reduceToNat, z, g1, spl, hag]
  exact ⟨_, rfl, hK _ _ (k1'.set hr.1)⟩

theorem finished0 {l e : Int} (hl : Gives0 20 [.agg PC, .agg [.int .i64 l, .sl .full 10 []], .sl .full 11 [], .sl .full 1 []] (.tup [.agg [.sl .full 16 [], .sl .full 3 []], .int .i64 e])) : Gives0 10 [.agg PC, .agg [.int .i64 l, .sl .full 10 []], .sl .full 1 []] (.agg [.sl .full 16 [], .sl .full 3 [], .int .i64 e]) := by
  intro μ L K KP hK
  refine acall_of_aw mix fn10 (by simp) ?_
  unfold ac10
  have hag : aggOf Tryz.prog 65 = some (some 3) := by kernel_rfl
  simp only [wkB, wkC, kernP, rd, rds, reduceIte, Nat.reduceEqDiff, Nat.reduceAdd, binop, intOp_mul, unop, shiftOp, strOp, isNil, fillElems, fillParts, elemZero, FQ, LeaveA, resA, resPV, resPVs, PV.fits, wkF, PV.leaf, Nat.reduceBEq, Nat.reduceLT, Nat.reduceLeDiff, Int.reduceLT, Int.reduceLE, Int.reduceToNat, DC]
  intro r hr
  have k0 := (Keeps.refl (μ := μ) (L := L)).set (o := .cells [.sl .full 16 [], .sl .full 3 [], .int .i64 0]) hr.1
  refine hl _ _ _ _ ?_
  intro μ1 L1 k1
  have k1' := k0.call k1
  have g1 : μ1 r = some (.cells [.sl .full 16 [], .sl .full 3 [], .int .i64 0]) := by rw [k1.1 r (by simp [Mem.set])]; simp [Mem.set]
  simp only [wkB, wkC, kernP, rd, rds, reduceIte, Nat.reduceEqDiff, Nat.reduceAdd, binop, intOp_mul, unop, shiftOp, strOp, isNil, fillElems, fillParts, elemZero, FQ, LeaveA, resA, resPV, resPVs, PV.fits, wkF, PV.leaf, Nat.reduceBEq, Nat.reduceLT, Nat.reduceLeDiff, Int.reduceLT, Int.reduceLE, Int.reduceToNat, g1, spl, hag]
  intro s hs
  have hrs : ¬ r = s := fun e => by rw [e, hs.1] at g1; cases g1
  have k2 := (k1'.set (o := .cells [.sl .full 16 [], .sl .full 3 []]) (k1'.fresh hs).1).set (o := .cells [.sl .full 16 [], .sl .full 3 []]) (k1'.fresh hs).1
  simp only [wkB, wkC, kernP, rd, rds, reduceIte, Nat.reduceEqDiff, Nat.reduceAdd, binop, intOp_mul, unop, shiftOp, strOp, isNil, fillElems, fillParts, elemZero, FQ, LeaveA, resA, resPV, resPVs, PV.fits, wkF, PV.leaf, Nat.reduceBEq, Nat.reduceLT, Nat.reduceLeDiff, Int.reduceLT, Int.reduceLE, Int.reduceToNat, g1, hrs, spl, hag]
  exact ⟨_, rfl, hK _ _ (k2.set hr.1)⟩

end Go.Bm

/- The fixed calls answer true. -/
namespace Go.Bm
open Go Go.Proofs

theorem encV_ok {cs : List PV} {v : TEntry.den} {μ : Mem} {L : Lv} {K KP : KA} (hr : Rep TEntry cs v) (hok : OkV TEntry v) (hlen : (wordsV TEntry v).length ≤ wmax)
    (hK : ∀ tk' μ' L', Keeps μ L μ' L' tk' → K (.sl tk' 1 (encB (wordsV TEntry v))) μ' L') : ACall Tryz.prog 6 [.agg cs] μ L K KP := by
  have := visit_enc TEntry v [] hok (by simpa using hlen)
  rw [List.nil_append] at this
  exact encode_ok hr this hK

theorem bytesOf_app : ∀ {xs ys : List PV} {a b : List UInt8}, bytesOf xs = some a → bytesOf ys = some b → bytesOf (xs ++ ys) = some (a ++ b)
  | [], _, _, _, h1, h2 => by simp [bytesOf] at h1; subst h1; exact h2
  | x :: xs, ys, a, b, h1, h2 => by
    cases x with
    | int k n =>
      cases k with
      | u8 =>
        simp only [bytesOf, Option.map_eq_some_iff] at h1
        obtain ⟨c, h3, rfl⟩ := h1
        simp only [List.cons_append, bytesOf, bytesOf_app h3 h2, Option.map_some]
      | _ => simp [bytesOf] at h1
    | _ => simp [bytesOf] at h1

theorem bytesOf_ex : ∀ {xs : List PV}, (∀ x ∈ xs, ∃ n, x = .int .u8 n) → ∃ bs, bytesOf xs = some bs
  | [], _ => ⟨[], rfl⟩
  | x :: xs, h => by
    obtain ⟨n, rfl⟩ := h x (by simp)
    obtain ⟨bs, h2⟩ := bytesOf_ex (xs := xs) (fun y hy => h y (by simp [hy]))
    exact ⟨UInt8.ofNat n.toNat :: bs, by simp only [bytesOf, h2, Option.map_some]⟩

theorem encB_u8 (ws : List Int) : ∀ x ∈ encB ws, ∃ n, x = .int .u8 n := by
  intro x hx
  have hle : ∀ n : Int, x ∈ leB n 8 → ∃ n, x = .int .u8 n := by
    intro n hn
    simp only [leB, List.mem_map] at hn
    obtain ⟨j, _, rfl⟩ := hn
    exact ⟨_, rfl⟩
  simp only [encB, List.mem_append, List.mem_flatMap] at hx
  rcases hx with (hx | ⟨w, _, hx⟩) | hx
  · exact hle _ hx
  · exact hle _ hx
  · exact hle _ hx

theorem b2s_ok {t : Regs} {μ : Mem} {L : Lv} {K : KA} {x : AX} {tk : Tok} {xs : List PV} {bs : List UInt8} (hx : rd t x = .sl tk 1 xs) (hb : bytesOf xs = some bs) (hK : K (.str ⟨bs.toArray⟩) μ L) : opM (.b2s x) t μ L K := by
  simp only [opM, hx]
  exact ⟨xs, bs, ⟨rfl, rfl⟩, hb, hK⟩

/-- The words of an entry of zeros. -/
abbrev WZ : List Int := wordsV TEntry TEntry.zero

theorem WZ_len : WZ.length = 22 := rfl

theorem okV_zero : ∀ T : Ty, OkV T T.zero
  | .int => ⟨by decide, by decide⟩
  | .bool => trivial
  | .bytes => ⟨fun x hx => (by cases hx), Nat.zero_le _⟩
  | .list t => ⟨Nat.zero_le _, fun v hv => (by cases hv)⟩
  | .pair a b => ⟨okV_zero a, okV_zero b⟩

theorem okZ : OkV TEntry TEntry.zero := okV_zero TEntry

theorem encZ_len : (encB WZ).length = 192 := by rw [encB_len, WZ_len]
theorem encZ_0 : (encB WZ)[0]? = some (.int .u8 22) := by
  rw [encB, List.append_assoc, List.getElem?_append_left (by rw [leB_len]; omega), leB_get _ (by omega), WZ_len]
  have : byteAt ((22 : Nat) : Int) 0 = 22 := by
    unfold byteAt
    have e : ((22 : Nat) : Int).fdiv (2 ^ (8 * 0)) = 22 := rfl
    rw [e]; exact IntWalk.u8_in _ (by omega)
  rw [this]
theorem encZ_8 : (encB WZ)[8]? = some (.int .u8 0) := by
  rw [encB, List.append_assoc, List.getElem?_append_right (by rw [leB_len]; omega), leB_len, List.getElem?_append_left (by rw [flatMap_leB_len, WZ_len]; omega)]
  have := flat_get WZ (k := 0) (j := 0) (by rw [WZ_len]; omega) (by omega)
  rw [Nat.mul_zero] at this
  rw [this]
  have : byteAt ((0 : Int)) 0 = 0 := by
    unfold byteAt
    have e : (0 : Int).fdiv (2 ^ (8 * 0)) = 0 := rfl
    rw [e]; exact IntWalk.u8_in _ (by omega)
  exact congrArg (fun n => some (PV.int .u8 n)) this

theorem zero_rep : Rep TEntry ZE TEntry.zero := Rep.zero TEntry

theorem chainZ : Chain (encB WZ ++ [.int .u8 1, .int .u8 2, .int .u8 3, .int .u8 4, .int .u8 5]) 0 [(WZ, TEntry.zero)] := by
  refine ⟨Nat.zero_le _, recAt_enc okZ (by rw [WZ_len]; decide), ?_⟩
  have : 0 + (16 + 8 * WZ.length) = (encB WZ).length := by rw [WZ_len, encZ_len]
  rw [this]
  refine ⟨by simp, ?_⟩
  rw [List.drop_left]
  exact .inl (by simp)

theorem examples_ok : Gives0 4 [] (.bool true) := by
  intro μ L K KP hK
  refine acall_of_aw mix fn4 (by simp) ?_
  unfold ac4
  simp only [wkB, wkC, kernP, rd, rds, reduceIte, Nat.reduceEqDiff, Nat.reduceAdd, binop, intOp_mul, unop, shiftOp, strOp, isNil, fillElems, fillParts, elemZero, FQ, LeaveA, resA, resPV, resPVs, PV.fits, wkF, PV.leaf, Nat.reduceBEq, Nat.reduceLT, Nat.reduceLeDiff, Int.reduceLT, Int.reduceLE, Int.reduceToNat]
  refine encV_ok zero_rep okZ (by rw [WZ_len]; decide) ?_
  intro tk1 μ1 L1 k1
  have z0 : ((((192 : Nat) : Int)) != 192) = false := rfl
  have z1 : ((22 : Int) != 22) = false := rfl
  have z2 : ((0 : Int) != 0) = false := rfl
  simp only [wkB, wkC, kernP, rd, rds, reduceIte, Nat.reduceEqDiff, Nat.reduceAdd, binop, intOp_mul, unop, shiftOp, strOp, isNil, fillElems, fillParts, elemZero, FQ, LeaveA, resA, resPV, resPVs, PV.fits, wkF, PV.leaf, Nat.reduceBEq, Nat.reduceLT, Nat.reduceLeDiff, Int.reduceLT, Int.reduceLE, Int.reduceToNat, encZ_len, encZ_0, encZ_8, z0, z1, z2, Int.toNat_zero, Int.le_refl]
  refine app_tok (xs := []) (ys := encB WZ) (tk := .full) (tk2 := tk1) (by simp only [wkB, wkC, kernP, rd, rds, reduceIte, Nat.reduceEqDiff, Nat.reduceAdd, binop, intOp_mul, unop, shiftOp, strOp, isNil, fillElems, fillParts, elemZero, FQ, LeaveA, resA, resPV, resPVs, PV.fits, wkF, PV.leaf, Nat.reduceBEq, Nat.reduceLT, Nat.reduceLeDiff, Int.reduceLT, Int.reduceLE, Int.reduceToNat]) (by simp only [wkB, wkC, kernP, rd, rds, reduceIte, Nat.reduceEqDiff, Nat.reduceAdd, binop, intOp_mul, unop, shiftOp, strOp, isNil, fillElems, fillParts, elemZero, FQ, LeaveA, resA, resPV, resPVs, PV.fits, wkF, PV.leaf, Nat.reduceBEq, Nat.reduceLT, Nat.reduceLeDiff, Int.reduceLT, Int.reduceLE, Int.reduceToNat]) (.inl rfl) (by rw [encZ_len]; simp) ?_
  intro n1 hn1
  simp only [wkB, wkC, kernP, rd, rds, reduceIte, Nat.reduceEqDiff, Nat.reduceAdd, binop, intOp_mul, unop, shiftOp, strOp, isNil, fillElems, fillParts, elemZero, FQ, LeaveA, resA, resPV, resPVs, PV.fits, wkF, PV.leaf, Nat.reduceBEq, Nat.reduceLT, Nat.reduceLeDiff, Int.reduceLT, Int.reduceLE, Int.reduceToNat]
  refine app_tok (xs := encB WZ) (ys := [.int .u8 1, .int .u8 2, .int .u8 3, .int .u8 4, .int .u8 5]) (tk := .tk n1) (tk2 := .full) (by simp only [wkB, wkC, kernP, rd, rds, reduceIte, Nat.reduceEqDiff, Nat.reduceAdd, binop, intOp_mul, unop, shiftOp, strOp, isNil, fillElems, fillParts, elemZero, FQ, LeaveA, resA, resPV, resPVs, PV.fits, wkF, PV.leaf, Nat.reduceBEq, Nat.reduceLT, Nat.reduceLeDiff, Int.reduceLT, Int.reduceLE, Int.reduceToNat]) (by simp only [wkB, wkC, kernP, rd, rds, reduceIte, Nat.reduceEqDiff, Nat.reduceAdd, binop, intOp_mul, unop, shiftOp, strOp, isNil, fillElems, fillParts, elemZero, FQ, LeaveA, resA, resPV, resPVs, PV.fits, wkF, PV.leaf, Nat.reduceBEq, Nat.reduceLT, Nat.reduceLeDiff, Int.reduceLT, Int.reduceLE, Int.reduceToNat]) (.inr ⟨n1, rfl, .inl rfl⟩) (by rw [encZ_len]; simp) ?_
  intro n2 hn2
  simp only [wkB, wkC, kernP, rd, rds, reduceIte, Nat.reduceEqDiff, Nat.reduceAdd, binop, intOp_mul, unop, shiftOp, strOp, isNil, fillElems, fillParts, elemZero, FQ, LeaveA, resA, resPV, resPVs, PV.fits, wkF, PV.leaf, Nat.reduceBEq, Nat.reduceLT, Nat.reduceLeDiff, Int.reduceLT, Int.reduceLE, Int.reduceToNat]
  refine recovered_ok (by rw [List.length_append, encZ_len]; simp) (by simp) chainZ ?_
  intro tk2 es2 μ2 L2 r2 k2
  have he2 : endOf 0 [(WZ, TEntry.zero)] = (encB WZ).length := by rw [encZ_len]; rfl
  rw [he2, List.take_left]
  have hl2 := All2.length r2
  simp only [List.map_cons, List.map_nil, List.length_cons, List.length_nil] at hl2
  have hl3 : es2.length = 1 := hl2
  simp only [wkB, wkC, kernP, rd, rds, reduceIte, Nat.reduceEqDiff, Nat.reduceAdd, binop, intOp_mul, unop, shiftOp, strOp, isNil, fillElems, fillParts, elemZero, FQ, LeaveA, resA, resPV, resPVs, PV.fits, wkF, PV.leaf, Nat.reduceBEq, Nat.reduceLT, Nat.reduceLeDiff, Int.reduceLT, Int.reduceLE, Int.reduceToNat]
  intro r hr
  have k3 : Keeps μ L μ2 L2 tk2 := ⟨fun x hx => by rw [k2.1 x (by rw [k1.1 x hx]; exact hx), k1.1 x hx], k2.2.1, fun c hc => by
    obtain ⟨q1, q2⟩ := k1.2.2 c hc
    have hne1 : c ≠ n1 := fun e => hn1.2 (e ▸ q1)
    have h1 : (L1.mv Tok.full n1) c := .inr ⟨q1, by simp⟩
    have h2 : ((L1.mv Tok.full n1).mv (Tok.tk n1) n2) c := .inr ⟨h1, fun e => hne1 (by cases e; rfl)⟩
    exact k2.2.2 c h2⟩
  have k3 : Keeps μ L μ2 L2 .full := ⟨k3.1, .inl rfl, fun c hc => ⟨(k3.2.2 c hc).1, by simp⟩⟩
  have kr := (k3.set (o := .cells [.sl .full 22 [], .sl .full 1 []]) (k3.fresh hr).1).set (o := .cells [.sl tk2 22 es2, .sl .full 1 (encB WZ)]) (k3.fresh hr).1
  simp only [wkB, wkC, kernP, rd, rds, reduceIte, Nat.reduceEqDiff, Nat.reduceAdd, binop, intOp_mul, unop, shiftOp, strOp, isNil, fillElems, fillParts, elemZero, FQ, LeaveA, resA, resPV, resPVs, PV.fits, wkF, PV.leaf, Nat.reduceBEq, Nat.reduceLT, Nat.reduceLeDiff, Int.reduceLT, Int.reduceLE, Int.reduceToNat, spl]
  refine recovered_ok (xs := []) (rs := []) (by simp) (by simp) ⟨by simp, recEnd_nil⟩ ?_
  intro tk4 es4 μ4 L4 r4 k4
  have k4 : Keeps _ _ μ4 L4 .full := ⟨k4.1, .inl rfl, fun c hc => ⟨(k4.2.2 c hc).1, by simp⟩⟩
  have he4 : es4 = [] := List.eq_nil_of_length_eq_zero (All2.length r4)
  subst he4
  have gr4 : μ4 r = some (.cells [.sl tk2 22 es2, .sl .full 1 (encB WZ)]) := by rw [k4.1 r (by simp [Mem.set])]; simp [Mem.set]
  have kr4 := kr.call k4
  simp only [wkB, wkC, kernP, rd, rds, reduceIte, Nat.reduceEqDiff, Nat.reduceAdd, binop, intOp_mul, unop, shiftOp, strOp, isNil, fillElems, fillParts, elemZero, FQ, LeaveA, resA, resPV, resPVs, PV.fits, wkF, PV.leaf, Nat.reduceBEq, Nat.reduceLT, Nat.reduceLeDiff, Int.reduceLT, Int.reduceLE, Int.reduceToNat]
  intro s hs
  have hrs : ¬ r = s := fun e => by rw [e, hs.1] at gr4; cases gr4
  simp only [wkB, wkC, kernP, rd, rds, reduceIte, Nat.reduceEqDiff, Nat.reduceAdd, binop, intOp_mul, unop, shiftOp, strOp, isNil, fillElems, fillParts, elemZero, FQ, LeaveA, resA, resPV, resPVs, PV.fits, wkF, PV.leaf, Nat.reduceBEq, Nat.reduceLT, Nat.reduceLeDiff, Int.reduceLT, Int.reduceLE, Int.reduceToNat, spl]
  refine declared_ok _ _ _ _ ?_
  intro μ5 L5 k5
  have gs4 : (Mem.set (Mem.set μ4 s (.cells [.sl .full 22 [], .sl .full 1 []])) s (.cells [.sl tk4 22 [], .sl .full 1 []])) s = some (.cells [.sl tk4 22 [], .sl .full 1 []]) := by simp [Mem.set]
  have gs5 : μ5 s = some (.cells [.sl tk4 22 [], .sl .full 1 []]) := by rw [k5.1 s (by simp [Mem.set])]; simp [Mem.set]
  have gr5 : μ5 r = some (.cells [.sl tk2 22 es2, .sl .full 1 (encB WZ)]) := by rw [k5.1 r (by simp [Mem.set, hrs, gr4])]; simp [Mem.set, hrs, gr4]
  have kr5 := ((kr4.set (kr4.fresh hs).1).set (kr4.fresh hs).1).call k5
  simp only [wkB, wkC, kernP, rd, rds, reduceIte, Nat.reduceEqDiff, Nat.reduceAdd, binop, intOp_mul, unop, shiftOp, strOp, isNil, fillElems, fillParts, elemZero, FQ, LeaveA, resA, resPV, resPVs, PV.fits, wkF, PV.leaf, Nat.reduceBEq, Nat.reduceLT, Nat.reduceLeDiff, Int.reduceLT, Int.reduceLE, Int.reduceToNat, DC]
  intro p hp
  have hrp : ¬ r = p := fun e => by rw [e, hp.1] at gr5; cases gr5
  have hsp : ¬ s = p := fun e => by rw [e, hp.1] at gs5; cases gs5
  have kr6 := (kr5.set (o := .cells [.sl .full 3 [], .sl .full 3 [], .sl .full 4 [], .sl .full 1 [], .int .i64 0, .int .i64 0, .int .i64 0, .sl .full 5 [], .sl .full 12 [], .sl .full 1 []]) (kr5.fresh hp).1).set (o := .cells PC) (kr5.fresh hp).1
  obtain ⟨bs, hbs⟩ := bytesOf_ex (encB_u8 WZ)
  have e1 : ((((1 : Nat) : Int)) == 1) = true := rfl
  have e0 : ((((0 : Nat) : Int)) == 0) = true := rfl
  simp only [wkB, wkC, kernP, rd, rds, reduceIte, Nat.reduceEqDiff, Nat.reduceAdd, binop, intOp_mul, unop, shiftOp, strOp, isNil, fillElems, fillParts, elemZero, FQ, LeaveA, resA, resPV, resPVs, PV.fits, wkF, PV.leaf, Nat.reduceBEq, Nat.reduceLT, Nat.reduceLeDiff, Int.reduceLT, Int.reduceLE, Int.reduceToNat, spl, hrp, hsp, gr5, gs5, hl3, e1]
  refine b2s_ok (xs := encB WZ) (by (simp only [rd, upd_app, reduceIte, Nat.reduceEqDiff]); try rfl) hbs ?_
  simp only [wkB, wkC, kernP, rd, rds, reduceIte, Nat.reduceEqDiff, Nat.reduceAdd, binop, intOp_mul, unop, shiftOp, strOp, isNil, fillElems, fillParts, elemZero, FQ, LeaveA, resA, resPV, resPVs, PV.fits, wkF, PV.leaf, Nat.reduceBEq, Nat.reduceLT, Nat.reduceLeDiff, Int.reduceLT, Int.reduceLE, Int.reduceToNat]
  refine b2s_ok (xs := encB WZ) (by (simp only [rd, upd_app, reduceIte, Nat.reduceEqDiff]); try rfl) hbs ?_
  simp only [wkB, wkC, kernP, rd, rds, reduceIte, Nat.reduceEqDiff, Nat.reduceAdd, binop, intOp_mul, unop, shiftOp, strOp, isNil, fillElems, fillParts, elemZero, FQ, LeaveA, resA, resPV, resPVs, PV.fits, wkF, PV.leaf, Nat.reduceBEq, Nat.reduceLT, Nat.reduceLeDiff, Int.reduceLT, Int.reduceLE, Int.reduceToNat, spl, hrp, hsp, gr5, gs5, e0, DC]
  refine finished0 (finish0 right0) _ _ _ _ ?_
  intro μ6 L6 k6
  have gp6 : μ6 p = some (.cells PC) := by rw [k6.1 p (by simp [Mem.set])]; simp [Mem.set]
  have kr7 := kr6.call k6
  have e2 : ((0 : Int) == 0) = true := rfl
  simp only [wkB, wkC, kernP, rd, rds, reduceIte, Nat.reduceEqDiff, Nat.reduceAdd, binop, intOp_mul, unop, shiftOp, strOp, isNil, fillElems, fillParts, elemZero, FQ, LeaveA, resA, resPV, resPVs, PV.fits, wkF, PV.leaf, Nat.reduceBEq, Nat.reduceLT, Nat.reduceLeDiff, Int.reduceLT, Int.reduceLE, Int.reduceToNat, gp6, e2, DC]
  refine finished0 (finish7 right7) _ _ _ _ ?_
  intro μ7 L7 k7
  have gp7 : μ7 p = some (.cells PC) := by rw [k7.1 p (by rw [gp6]; simp), gp6]
  have kr8 := kr7.call k7
  have e3 : ((1 : Int) == 1) = true := rfl
  simp only [wkB, wkC, kernP, rd, rds, reduceIte, Nat.reduceEqDiff, Nat.reduceAdd, binop, intOp_mul, unop, shiftOp, strOp, isNil, fillElems, fillParts, elemZero, FQ, LeaveA, resA, resPV, resPVs, PV.fits, wkF, PV.leaf, Nat.reduceBEq, Nat.reduceLT, Nat.reduceLeDiff, Int.reduceLT, Int.reduceLE, Int.reduceToNat, gp7, e3, DC]
  refine work0 right0 ?_
  intro j μ8 L8 k8
  simp only [wkB, wkC, kernP, rd, rds, reduceIte, Nat.reduceEqDiff, Nat.reduceAdd, binop, intOp_mul, unop, shiftOp, strOp, isNil, fillElems, fillParts, elemZero, FQ, LeaveA, resA, resPV, resPVs, PV.fits, wkF, PV.leaf, Nat.reduceBEq, Nat.reduceLT, Nat.reduceLeDiff, Int.reduceLT, Int.reduceLE, Int.reduceToNat, e0]
  exact ⟨_, rfl, hK _ _ (kr8.call k8)⟩

end Go.Bm
