/- Walks: the entry that is made. -/
import Derived.Test.YtjgoicmdcegmnaaGreatWkE
import Derived.Test.YtjgoicmdcegmnaaGreatWkD

set_option linter.unusedVariables false
set_option linter.unusedSimpArgs false

/- The entry that is made: numbers, rules. -/
namespace Go.Bm
open Go Go.Proofs

/-- A loop that does one round and is left in the second. -/
theorem aw_loop1 {P : Program} {x : ACode} {Q : AEx → St → Prop} {σ : St} (h : AW P x (LoopQ (fun m σ' => m = 0 ∧ AW P x (LoopQ (fun _ _ => False) 0 Q) σ') 1 Q) σ) : AW P (.loop x) Q σ := by
  refine aw_loop (fun n σ' => (n = 1 ∧ σ' = σ) ∨ (n = 0 ∧ AW P x (LoopQ (fun _ _ => False) 0 Q) σ')) 1 (.inl ⟨rfl, rfl⟩) ?_
  rintro n σ' (⟨rfl, rfl⟩ | ⟨rfl, h0⟩)
  · refine AW_mono (Q := LoopQ (fun m σ' => m = 0 ∧ AW P x (LoopQ (fun _ _ => False) 0 Q) σ') 1 Q) ?_ (fun h => h) h
    intro e σ2 hq
    cases e with
    | normal => obtain ⟨m, hm, h1, h2⟩ := hq; exact ⟨m, hm, .inr ⟨h1, h2⟩⟩
    | exit k => exact hq
    | ret => exact hq
    | pan p => exact hq
  · refine AW_mono (Q := LoopQ (fun _ _ => False) 0 Q) ?_ (fun h => h) h0
    intro e σ2 hq
    cases e with
    | normal => obtain ⟨m, hm, _⟩ := hq; omega
    | exit k => exact hq
    | ret => exact hq
    | pan p => exact hq

theorem Keeps.at {μ μ' : Mem} {L L' : Lv} {tk : Tok} {q : Nat} {x : AObj} (k : Keeps μ L μ' L' tk) (h : μ q = some x) : μ' q = some x := by rw [k.1 q (by rw [h]; simp), h]
theorem at_self {μ : Mem} {p : Nat} {o : AObj} : (μ.set p o) p = some o := by simp [Mem.set]
theorem at_set {μ : Mem} {p q : Nat} {o x : AObj} (hqp : ¬ q = p) (h : μ q = some x) : (μ.set p o) q = some x := by simp only [Mem.set]; rw [if_neg hqp]; exact h

def numAt (ns : List Int) (k : Nat) : Int := ns.getD k 0

theorem number_ok (tk tk2 : Tok) (ns : List Int) (ys : List PV) (k : Nat) : Gives0 12 [.agg [.sl tk 1 (ints ns), .sl tk2 1 ys], .int .i64 (k : Nat)] (.int .i64 (numAt ns k)) := by
  intro μ L K KP hK
  refine acall_of_aw mix fn12 (by simp) ?_
  unfold ac12
  have hl : (ints ns).length = ns.length := by simp
  by_cases h : k < ns.length
  · have e2 : (ints ns)[k]? = some (.int .i64 ns[k]) := by simp [h]
    have e3 : numAt ns k = ns[k] := by simp [numAt, List.getD_eq_getElem?_getD, h]
    rw [e3] at hK
    simp only [wkB, wkC, kernP, rd, rds, reduceIte, Nat.reduceEqDiff, Nat.reduceAdd, binop, intOp_mul, unop, shiftOp, strOp, isNil, fillElems, fillParts, elemZero, FQ, LeaveA, resA, resPV, resPVs, PV.fits, wkF, PV.leaf, Nat.reduceBEq, Nat.reduceLT, Nat.reduceLeDiff, Int.reduceLT, Int.reduceLE, Int.reduceToNat, hl, dec_t h, nn_k, e2]
    exact ⟨_, rfl, hK _ _ .refl⟩
  · have e3 : numAt ns k = 0 := by simp only [numAt, List.getD_eq_getElem?_getD]; rw [List.getElem?_eq_none (by omega)]; rfl
    rw [e3] at hK
    simp only [wkB, wkC, kernP, rd, rds, reduceIte, Nat.reduceEqDiff, Nat.reduceAdd, binop, intOp_mul, unop, shiftOp, strOp, isNil, fillElems, fillParts, elemZero, FQ, LeaveA, resA, resPV, resPVs, PV.fits, wkF, PV.leaf, Nat.reduceBEq, Nat.reduceLT, Nat.reduceLeDiff, Int.reduceLT, Int.reduceLE, Int.reduceToNat, hl, dec_f h]
    exact ⟨_, rfl, hK _ _ .refl⟩

theorem wrap_ok {x : Int} (ht : x.tmod 4294967296 = x) (h1 : decide (x < -2147483648) = false) (h2 : decide (x > 2147483647) = false) : Gives0 62 [.int .i64 x] (.int .i64 x) := by
  intro μ L K KP hK
  refine acall_of_aw mix fn62 (by simp) ?_
  unfold ac62
  have e0 : (4294967296 : Int) ≠ 0 := by decide
  simp only [wkB, wkC, kernP, rd, rds, reduceIte, Nat.reduceEqDiff, Nat.reduceAdd, binop, intOp_mul, unop, shiftOp, strOp, isNil, fillElems, fillParts, elemZero, FQ, LeaveA, resA, resPV, resPVs, PV.fits, wkF, PV.leaf, Nat.reduceBEq, Nat.reduceLT, Nat.reduceLeDiff, Int.reduceLT, Int.reduceLE, Int.reduceToNat, intOp_rem e0, ht, h1, h2]
  exact ⟨_, rfl, hK _ _ .refl⟩

theorem op_add : Gives0 25 [.int .i64 4, .int .i64 (-20), .int .i64 (-20)] (.int .i64 (-40)) := by
  intro μ L K KP hK
  refine acall_of_aw mix fn25 (by simp) ?_
  unfold ac25
  simp only [wkB, wkC, kernP, rd, rds, reduceIte, Nat.reduceEqDiff, Nat.reduceAdd, binop, intOp_mul, unop, shiftOp, strOp, isNil, fillElems, fillParts, elemZero, FQ, LeaveA, resA, resPV, resPVs, PV.fits, wkF, PV.leaf, Nat.reduceBEq, Nat.reduceLT, Nat.reduceLeDiff, Int.reduceLT, Int.reduceLE, Int.reduceToNat]
  refine wrap_ok (by decide) (by decide) (by decide) _ _ _ _ ?_
  intro μ1 L1 k1
  simp only [wkB, wkC, kernP, rd, rds, reduceIte, Nat.reduceEqDiff, Nat.reduceAdd, binop, intOp_mul, unop, shiftOp, strOp, isNil, fillElems, fillParts, elemZero, FQ, LeaveA, resA, resPV, resPVs, PV.fits, wkF, PV.leaf, Nat.reduceBEq, Nat.reduceLT, Nat.reduceLeDiff, Int.reduceLT, Int.reduceLE, Int.reduceToNat]
  refine wrap_ok (by decide) (by decide) (by decide) _ _ _ _ ?_
  intro μ2 L2 k2
  have e : IntKind.wrap .i64 ((-20 : Int) + -20) = -40 := by rw [IntWalk.i64_in _ (by omega)]; rfl
  have c4 : ((4 : Int) == 4) = true := rfl
  simp only [wkB, wkC, kernP, rd, rds, reduceIte, Nat.reduceEqDiff, Nat.reduceAdd, binop, intOp_mul, unop, shiftOp, strOp, isNil, fillElems, fillParts, elemZero, FQ, LeaveA, resA, resPV, resPVs, PV.fits, wkF, PV.leaf, Nat.reduceBEq, Nat.reduceLT, Nat.reduceLeDiff, Int.reduceLT, Int.reduceLE, Int.reduceToNat, e, c4]
  refine wrap_ok (by decide) (by decide) (by decide) _ _ _ _ ?_
  intro μ3 L3 k3
  simp only [wkB, wkC, kernP, rd, rds, reduceIte, Nat.reduceEqDiff, Nat.reduceAdd, binop, intOp_mul, unop, shiftOp, strOp, isNil, fillElems, fillParts, elemZero, FQ, LeaveA, resA, resPV, resPVs, PV.fits, wkF, PV.leaf, Nat.reduceBEq, Nat.reduceLT, Nat.reduceLeDiff, Int.reduceLT, Int.reduceLE, Int.reduceToNat]
  exact ⟨_, rfl, hK _ _ ((k1.call k2).call k3)⟩

theorem op_sub : Gives0 25 [.int .i64 5, .int .i64 (-20), .int .i64 (-20)] (.int .i64 0) := by
  intro μ L K KP hK
  refine acall_of_aw mix fn25 (by simp) ?_
  unfold ac25
  simp only [wkB, wkC, kernP, rd, rds, reduceIte, Nat.reduceEqDiff, Nat.reduceAdd, binop, intOp_mul, unop, shiftOp, strOp, isNil, fillElems, fillParts, elemZero, FQ, LeaveA, resA, resPV, resPVs, PV.fits, wkF, PV.leaf, Nat.reduceBEq, Nat.reduceLT, Nat.reduceLeDiff, Int.reduceLT, Int.reduceLE, Int.reduceToNat]
  refine wrap_ok (by decide) (by decide) (by decide) _ _ _ _ ?_
  intro μ1 L1 k1
  simp only [wkB, wkC, kernP, rd, rds, reduceIte, Nat.reduceEqDiff, Nat.reduceAdd, binop, intOp_mul, unop, shiftOp, strOp, isNil, fillElems, fillParts, elemZero, FQ, LeaveA, resA, resPV, resPVs, PV.fits, wkF, PV.leaf, Nat.reduceBEq, Nat.reduceLT, Nat.reduceLeDiff, Int.reduceLT, Int.reduceLE, Int.reduceToNat]
  refine wrap_ok (by decide) (by decide) (by decide) _ _ _ _ ?_
  intro μ2 L2 k2
  have e : IntKind.wrap .i64 ((-20 : Int) - -20) = 0 := by rw [IntWalk.i64_in _ (by omega)]; rfl
  have c4 : ((5 : Int) == 4) = false := rfl
  have c5 : ((5 : Int) == 5) = true := rfl
  simp only [wkB, wkC, kernP, rd, rds, reduceIte, Nat.reduceEqDiff, Nat.reduceAdd, binop, intOp_mul, unop, shiftOp, strOp, isNil, fillElems, fillParts, elemZero, FQ, LeaveA, resA, resPV, resPVs, PV.fits, wkF, PV.leaf, Nat.reduceBEq, Nat.reduceLT, Nat.reduceLeDiff, Int.reduceLT, Int.reduceLE, Int.reduceToNat, e, c4, c5]
  refine wrap_ok (by decide) (by decide) (by decide) _ _ _ _ ?_
  intro μ3 L3 k3
  simp only [wkB, wkC, kernP, rd, rds, reduceIte, Nat.reduceEqDiff, Nat.reduceAdd, binop, intOp_mul, unop, shiftOp, strOp, isNil, fillElems, fillParts, elemZero, FQ, LeaveA, resA, resPV, resPVs, PV.fits, wkF, PV.leaf, Nat.reduceBEq, Nat.reduceLT, Nat.reduceLeDiff, Int.reduceLT, Int.reduceLE, Int.reduceToNat]
  exact ⟨_, rfl, hK _ _ ((k1.call k2).call k3)⟩

theorem op_mul : Gives0 25 [.int .i64 6, .int .i64 (-20), .int .i64 (-20)] (.int .i64 400) := by
  intro μ L K KP hK
  refine acall_of_aw mix fn25 (by simp) ?_
  unfold ac25
  simp only [wkB, wkC, kernP, rd, rds, reduceIte, Nat.reduceEqDiff, Nat.reduceAdd, binop, intOp_mul, unop, shiftOp, strOp, isNil, fillElems, fillParts, elemZero, FQ, LeaveA, resA, resPV, resPVs, PV.fits, wkF, PV.leaf, Nat.reduceBEq, Nat.reduceLT, Nat.reduceLeDiff, Int.reduceLT, Int.reduceLE, Int.reduceToNat]
  refine wrap_ok (by decide) (by decide) (by decide) _ _ _ _ ?_
  intro μ1 L1 k1
  simp only [wkB, wkC, kernP, rd, rds, reduceIte, Nat.reduceEqDiff, Nat.reduceAdd, binop, intOp_mul, unop, shiftOp, strOp, isNil, fillElems, fillParts, elemZero, FQ, LeaveA, resA, resPV, resPVs, PV.fits, wkF, PV.leaf, Nat.reduceBEq, Nat.reduceLT, Nat.reduceLeDiff, Int.reduceLT, Int.reduceLE, Int.reduceToNat]
  refine wrap_ok (by decide) (by decide) (by decide) _ _ _ _ ?_
  intro μ2 L2 k2
  have e : IntKind.wrap .i64 ((-20 : Int) * -20) = 400 := by rw [IntWalk.i64_in _ (by omega)]; rfl
  have c4 : ((6 : Int) == 4) = false := rfl
  have c5 : ((6 : Int) == 5) = false := rfl
  have c6 : ((6 : Int) == 6) = true := rfl
  simp only [wkB, wkC, kernP, rd, rds, reduceIte, Nat.reduceEqDiff, Nat.reduceAdd, binop, intOp_mul, unop, shiftOp, strOp, isNil, fillElems, fillParts, elemZero, FQ, LeaveA, resA, resPV, resPVs, PV.fits, wkF, PV.leaf, Nat.reduceBEq, Nat.reduceLT, Nat.reduceLeDiff, Int.reduceLT, Int.reduceLE, Int.reduceToNat, e, c4, c5, c6]
  refine wrap_ok (by decide) (by decide) (by decide) _ _ _ _ ?_
  intro μ3 L3 k3
  simp only [wkB, wkC, kernP, rd, rds, reduceIte, Nat.reduceEqDiff, Nat.reduceAdd, binop, intOp_mul, unop, shiftOp, strOp, isNil, fillElems, fillParts, elemZero, FQ, LeaveA, resA, resPV, resPVs, PV.fits, wkF, PV.leaf, Nat.reduceBEq, Nat.reduceLT, Nat.reduceLeDiff, Int.reduceLT, Int.reduceLE, Int.reduceToNat]
  exact ⟨_, rfl, hK _ _ ((k1.call k2).call k3)⟩

set_option maxRecDepth 20000 in
theorem rule_ok {op o4 r d : Int} (ho : IntKind.wrap .i64 (4 + IntKind.wrap .i64 (op.tmod 7)) = o4) (h25 : Gives0 25 [.int .i64 o4, .int .i64 (-20), .int .i64 (-20)] (.int .i64 r)) (hd : 0 ≤ d ∧ d ≤ 255) {μ : Mem} {L : Lv} {K KP : KA}
    (hK : ∀ a b μ' L', 0 ≤ a → a ≤ 20 → 0 ≤ b → b ≤ 20 → Keeps μ L μ' L' .full → K (.agg (ints [a, 1, b, o4, -20, -20, -20, -20, r, r])) μ' L') :
    ACall Tryz.prog 13 [.agg [.int .u8 op, .int .u8 0, .int .u8 0, .int .u8 0, .int .u8 0, .int .i16 0, .int .i16 0, .int .u8 d, .int .u8 0]] μ L K KP := by
  refine acall_of_aw mix fn13 (by simp) ?_
  unfold ac13
  have n20 : (20 : Int) ≠ 0 := by decide
  have n4 : (4 : Int) ≠ 0 := by decide
  have n3 : (3 : Int) ≠ 0 := by decide
  have n7 : (7 : Int) ≠ 0 := by decide
  have n2 : (2 : Int) ≠ 0 := by decide
  have n40 : (40 : Int) ≠ 0 := by decide
  have hag : aggOf Tryz.prog 83 = some (some 10) := by kernel_rfl
  have hA : 0 ≤ d.tmod 20 ∧ d.tmod 20 < 20 := ⟨Int.tmod_nonneg _ hd.1, Int.tmod_lt_of_pos _ (by decide)⟩
  have hB : 0 ≤ d.tmod 3 ∧ d.tmod 3 < 3 := ⟨Int.tmod_nonneg _ hd.1, Int.tmod_lt_of_pos _ (by decide)⟩
  obtain ⟨A, hA0⟩ : ∃ A, d.tmod 20 = A := ⟨_, rfl⟩
  obtain ⟨B, hB0⟩ : ∃ B, d.tmod 3 = B := ⟨_, rfl⟩
  rw [hA0] at hA
  rw [hB0] at hB
  have e0 : IntKind.wrap .i64 A = A := IntWalk.i64_in _ (by omega)
  have e1 : IntKind.wrap .i64 (1 + A) = 1 + A := IntWalk.i64_in _ (by omega)
  have e2 : IntKind.wrap .i64 ((1 : Int) + 0) = 1 := by rw [IntWalk.i64_in _ (by omega)]; rfl
  have e3 : IntKind.wrap .i64 B = B := IntWalk.i64_in _ (by omega)
  have e4 : IntKind.wrap .i64 ((0 : Int) - 20) = -20 := by rw [IntWalk.i64_in _ (by omega)]; rfl
  have e5 : IntKind.wrap .i64 ((-20 : Int) + 0) = -20 := by rw [IntWalk.i64_in _ (by omega)]; rfl
  have e6 : ((0 : Int) == 1) = false := rfl
  have e7 : IntKind.wrap .i64 ((-20 : Int) + 1) = -19 := by rw [IntWalk.i64_in _ (by omega)]; rfl
  have l0 : decide ((-20 : Int) ≤ -20) = true := by decide
  have l1 : decide ((-19 : Int) ≤ -20) = false := by decide
  have lr : (r < r) = False := by simp
  simp only [wkB, wkC, kernP, rd, rds, reduceIte, Nat.reduceEqDiff, Nat.reduceAdd, binop, intOp_mul, unop, shiftOp, strOp, isNil, fillElems, fillParts, elemZero, FQ, LeaveA, resA, resPV, resPVs, PV.fits, wkF, PV.leaf, Nat.reduceBEq, Nat.reduceLT, Nat.reduceLeDiff, Int.reduceLT, Int.reduceLE, Int.reduceToNat, intOp_rem n20, intOp_rem n4, intOp_rem n3, intOp_rem n7, intOp_rem n2, intOp_rem n40, spl, e0, e1, e2, e3, e4, e5, e6, ho, wz, Int.zero_tmod, gt_iff_lt, Int.lt_irrefl, hA0, hB0, set_set]
  intro q hq p hp
  have k0 := (Keeps.refl (μ := μ) (L := L)).set (o := .cells [.int .i64 0, .int .i64 0, .int .i64 0, .int .i64 0, .int .i64 0, .int .i64 0, .int .i64 0, .int .i64 0, .int .i64 0, .int .i64 0]) hq.1
  have hpq : ¬ q = p := fun e => by have := hp.1; rw [← e] at this; simp [Mem.set] at this
  have hp0 := k0.fresh hp
  refine h25 _ _ _ _ ?_
  intro μ1 L1 k1
  have gp : μ1 p = some (.cells (ints [1 + A, 1, B, o4, -20, -20, -20, -20, 0, 0])) := k1.at at_self
  have gq : μ1 q = some (.cells [.int .i64 0, .int .i64 0, .int .i64 0, .int .i64 0, .int .i64 0, .int .i64 0, .int .i64 0, .int .i64 0, .int .i64 0, .int .i64 0]) := k1.at (at_set hpq at_self)
  have k2 := (k0.set hp0.1).call k1
  simp only [wkB, wkC, kernP, rd, rds, reduceIte, Nat.reduceEqDiff, Nat.reduceAdd, binop, intOp_mul, unop, shiftOp, strOp, isNil, fillElems, fillParts, elemZero, FQ, LeaveA, resA, resPV, resPVs, PV.fits, wkF, PV.leaf, Nat.reduceBEq, Nat.reduceLT, Nat.reduceLeDiff, Int.reduceLT, Int.reduceLE, Int.reduceToNat, gp, ints, spl, set_set]
  refine aw_loop1 ?_
  simp only [wkB, wkC, kernP, rd, rds, reduceIte, Nat.reduceEqDiff, Nat.reduceAdd, binop, intOp_mul, unop, shiftOp, strOp, isNil, fillElems, fillParts, elemZero, FQ, LeaveA, resA, resPV, resPVs, PV.fits, wkF, PV.leaf, Nat.reduceBEq, Nat.reduceLT, Nat.reduceLeDiff, Int.reduceLT, Int.reduceLE, Int.reduceToNat, l0, ints, spl, set_set]
  refine aw_loop1 ?_
  simp only [wkB, wkC, kernP, rd, rds, reduceIte, Nat.reduceEqDiff, Nat.reduceAdd, binop, intOp_mul, unop, shiftOp, strOp, isNil, fillElems, fillParts, elemZero, FQ, LeaveA, resA, resPV, resPVs, PV.fits, wkF, PV.leaf, Nat.reduceBEq, Nat.reduceLT, Nat.reduceLeDiff, Int.reduceLT, Int.reduceLE, Int.reduceToNat, l0, ints, spl, set_set]
  refine h25 _ _ _ _ ?_
  intro μ2 L2 k3
  have gp2 : μ2 p = some (.cells (ints [1 + A, 1, B, o4, -20, -20, -20, -20, r, r])) := k3.at at_self
  have gq2 : μ2 q = some (.cells [.int .i64 0, .int .i64 0, .int .i64 0, .int .i64 0, .int .i64 0, .int .i64 0, .int .i64 0, .int .i64 0, .int .i64 0, .int .i64 0]) := k3.at (at_set hpq gq)
  have k4 := (k2.set (o := .cells (ints [1 + A, 1, B, o4, -20, -20, -20, -20, r, r])) hp0.1).call k3
  simp only [wkB, wkC, kernP, rd, rds, reduceIte, Nat.reduceEqDiff, Nat.reduceAdd, binop, intOp_mul, unop, shiftOp, strOp, isNil, fillElems, fillParts, elemZero, FQ, LeaveA, resA, resPV, resPVs, PV.fits, wkF, PV.leaf, Nat.reduceBEq, Nat.reduceLT, Nat.reduceLeDiff, Int.reduceLT, Int.reduceLE, Int.reduceToNat, gp2, ints, spl, set_set, gt_iff_lt, Int.lt_irrefl, e7]
  refine ⟨0, by omega, rfl, ?_⟩
  refine ⟨0, by omega, rfl, ?_⟩

  have gq3 : (Mem.set μ2 p (.cells (ints [1 + A, 1, B, o4, -20, -20, -20, -20, r, r]))) q = some (.cells [.int .i64 0, .int .i64 0, .int .i64 0, .int .i64 0, .int .i64 0, .int .i64 0, .int .i64 0, .int .i64 0, .int .i64 0, .int .i64 0]) := by simp [Mem.set, hpq, gq2]
  simp only [wkB, wkC, kernP, rd, rds, reduceIte, Nat.reduceEqDiff, Nat.reduceAdd, binop, intOp_mul, unop, shiftOp, strOp, isNil, fillElems, fillParts, elemZero, FQ, LeaveA, resA, resPV, resPVs, PV.fits, wkF, PV.leaf, Nat.reduceBEq, Nat.reduceLT, Nat.reduceLeDiff, Int.reduceLT, Int.reduceLE, Int.reduceToNat, l1, ints, spl, set_set, hpq, gq2, hag]
  exact ⟨_, rfl, hK (1 + A) B _ _ (by omega) (by omega) (by omega) (by omega) ((k4.set hp0.1).set hq.1)⟩

end Go.Bm

/- The entry that is made: what is owned while it is made. -/
namespace Go.Bm
open Go Go.Proofs

/-- What was there stands; these tokens live, are different, and are one's own. -/
structure Ow (μ : Mem) (L : Lv) (μ1 : Mem) (L1 : Lv) (ts : List Tok) : Prop where
  kp : Keeps μ L μ1 L1 .full
  liv : ∀ (i : Nat) t, ts[i]? = some t → Liv L1 t
  dis : ∀ (i j : Nat) a b, i ≠ j → ts[i]? = some a → ts[j]? = some b → ∀ c, a = .tk c → b ≠ .tk c
  own : ∀ (i : Nat) t c, ts[i]? = some t → t = .tk c → ¬ L c

theorem Ow.app {μ μ1 : Mem} {L L1 : Lv} {ts : List Tok} {i b : Nat} {t : Tok} (h : Ow μ L μ1 L1 ts) (hi : ts[i]? = some t) (hb : Fresh μ1 L1 b) : Ow μ L μ1 (L1.mv t b) (ts.set i (.tk b)) := by
  have hL : ∀ c, L c → L1 c := fun c hc => (h.kp.2.2 c hc).1
  refine ⟨⟨h.kp.1, .inl rfl, fun c hc => ⟨.inr ⟨hL c hc, fun e => h.own i t c hi e hc⟩, by simp⟩⟩, ?_, ?_, ?_⟩
  · intro j t' hj
    rw [List.getElem?_set] at hj
    split at hj
    · rename_i e
      split at hj
      · cases hj; exact .inr ⟨b, rfl, .inl rfl⟩
      · cases hj
    · rename_i e
      rcases h.liv j t' hj with e' | ⟨a, e', ha⟩
      · exact .inl e'
      · exact .inr ⟨a, e', .inr ⟨ha, fun e2 => h.dis i j t t' e hi hj a e2 e'⟩⟩
  · intro j k x y hjk hj hk c hx hy
    rw [List.getElem?_set] at hj hk
    have hlive : ∀ (j : Nat) t', ts[j]? = some t' → t' ≠ .tk b := by
      intro j t' hj e
      rcases h.liv j t' hj with e' | ⟨a, e', ha⟩
      · rw [e'] at e; cases e
      · rw [e'] at e; cases e; exact hb.2 ha
    split at hj
    · rename_i e1
      split at hj
      · cases hj
        split at hk
        · rename_i e2; exact hjk (e1.symm.trans e2)
        · cases hx
          exact hlive k y hk hy
      · cases hj
    · split at hk
      · split at hk
        · cases hk; cases hy; exact hlive j x hj hx
        · cases hk
      · exact h.dis j k x y hjk hj hk c hx hy
  · intro j t' c hj hc
    rw [List.getElem?_set] at hj
    split at hj
    · split at hj
      · cases hj; cases hc; exact fun hl => hb.2 (hL _ hl)
      · cases hj
    · exact h.own j t' c hj hc

theorem Ow.app0 {μ μ1 : Mem} {L L1 : Lv} {ts : List Tok} {b : Nat} (h : Ow μ L μ1 L1 ts) (hb : Fresh μ1 L1 b) : Ow μ L μ1 (L1.mv .full b) ts :=
  ⟨⟨h.kp.1, .inl rfl, fun c hc => ⟨.inr ⟨(h.kp.2.2 c hc).1, by simp⟩, by simp⟩⟩, fun i t hi => (h.liv i t hi).imp id fun ⟨a, e, ha⟩ => ⟨a, e, .inr ⟨ha, by simp⟩⟩, h.dis, h.own⟩

theorem Ow.call {μ μ1 μ2 : Mem} {L L1 L2 : Lv} {ts : List Tok} {tk : Tok} (h : Ow μ L μ1 L1 ts) (k : Keeps μ1 L1 μ2 L2 tk) : Ow μ L μ2 L2 ts :=
  ⟨h.kp.call k, fun i t hi => (h.liv i t hi).imp id fun ⟨a, e, ha⟩ => ⟨a, e, (k.2.2 a ha).1⟩, h.dis, h.own⟩

theorem Ow.set {μ μ1 : Mem} {L L1 : Lv} {ts : List Tok} {q : Nat} {o : AObj} (h : Ow μ L μ1 L1 ts) (hq : μ q = none) : Ow μ L (μ1.set q o) L1 ts :=
  ⟨h.kp.set hq, h.liv, h.dis, h.own⟩

/-- Slices of their own capacity. -/
theorem Ow.more {μ μ1 : Mem} {L L1 : Lv} {ts : List Tok} (n : Nat) (h : Ow μ L μ1 L1 ts) : Ow μ L μ1 L1 (ts ++ List.replicate n .full) := by
  have key : ∀ (i : Nat) t, (ts ++ List.replicate n Tok.full)[i]? = some t → ts[i]? = some t ∨ t = .full := by
    intro i t hi
    by_cases e : i < ts.length
    · rw [List.getElem?_append_left e] at hi; exact .inl hi
    · rw [List.getElem?_append_right (by omega), List.getElem?_replicate] at hi
      split at hi
      · cases hi; exact .inr rfl
      · cases hi
  refine ⟨h.kp, ?_, ?_, ?_⟩
  · intro i t hi
    rcases key i t hi with h1 | h1
    · exact h.liv i t h1
    · exact .inl h1
  · intro i j a b hij hi hj c ha hb
    rcases key i a hi with h1 | h1
    · rcases key j b hj with h2 | h2
      · exact h.dis i j a b hij h1 h2 c ha hb
      · rw [h2] at hb; cases hb
    · rw [h1] at ha; cases ha
  · intro i t c hi hc
    rcases key i t hi with h1 | h1
    · exact h.own i t c h1 hc
    · rw [h1] at hc; cases hc

theorem Ow.less {μ μ1 : Mem} {L L1 : Lv} {ts us : List Tok} (h : Ow μ L μ1 L1 (ts ++ us)) : Ow μ L μ1 L1 ts := by
  have key : ∀ (i : Nat) t, ts[i]? = some t → (ts ++ us)[i]? = some t := by
    intro i t hi
    rw [List.getElem?_append_left (List.getElem?_eq_some_iff.1 hi).1]; exact hi
  exact ⟨h.kp, fun i t hi => h.liv i t (key i t hi), fun i j a b hij hi hj => h.dis i j a b hij (key i a hi) (key j b hj), fun i t c hi => h.own i t c (key i t hi)⟩

/-- One appends to a slice of one's own. -/
theorem app_ow {t : Regs} {μ0 μ : Mem} {L0 L : Lv} {ts : List Tok} (i : Nat) {sz bytes : Nat} {x y : AX} {tk tk2 : Tok} {xs ys : List PV} {K : KA} (h : Ow μ0 L0 μ L ts) (hi : ts[i]? = some tk) (hx : rd t x = .sl tk sz xs) (hy : rd t y = .sl tk2 sz ys)
    (hb : (xs.length + ys.length) * bytes ≤ 140737488355328 ∧ xs.length + ys.length ≤ 140737488355328) (hK : ∀ b, Ow μ0 L0 μ (L.mv tk b) (ts.set i (.tk b)) → K (.sl (.tk b) sz (xs ++ ys)) μ (L.mv tk b)) : opM (.append sz bytes x y) t μ L K :=
  app_tok hx hy (h.liv i tk hi) hb fun b hb' => hK b (h.app hi hb')

theorem Keeps.stay {μ μ' : Mem} {L L' : Lv} {tk : Tok} (k : Keeps μ L μ' L' tk) (r : ROp) (W : Nat → Prop) : StayR r W μ μ' = True := eq_true (.inr fun i _ hi => k.1 i hi)
theorem new_stay {μ : Mem} {i : Nat} (o : AObj) (h : μ i = none) (r : ROp) (W : Nat → Prop) : StayR r W μ (μ.set i o) = True := eq_true (.inr fun j _ hj => by
  have : j ≠ i := fun e => hj (by rw [e]; exact h)
  simp [Mem.set, this])

def S1 (v : TSum.den) : Prop := OkV TSum v ∧ (wordsV TSum v).length ≤ 100 ∧ (rwSum v).length ≤ 100
def S3 (v : TFact.den) : Prop := OkV TFact v ∧ (wordsV TFact v).length ≤ 300 ∧ (rwFact v).length ≤ 300

/-- So many values of a kind, as elements. -/
def LL (T : Ty) (P : T.den → Prop) (k : Nat) (xs : List PV) : Prop := ∃ vs : List T.den, RepL T xs vs ∧ vs.length = k ∧ ∀ v ∈ vs, P v

theorem LL.nil {T : Ty} {P : T.den → Prop} : LL T P 0 [] := ⟨[], trivial, rfl, by simp⟩
theorem LL.snoc {T : Ty} {P : T.den → Prop} {k : Nat} {xs : List PV} {y : PV} {v : T.den} (h : LL T P k xs) (hy : Rep T y.flat v) (hv : P v) : LL T P (k + 1) (xs ++ [y]) := by
  obtain ⟨vs, h1, h2, h3⟩ := h
  refine ⟨vs ++ [v], All2.snoc h1 hy, by simp [h2], fun u hu => ?_⟩
  rcases List.mem_append.1 hu with hu | hu
  · exact h3 u hu
  · rw [List.mem_singleton.1 hu]; exact hv
theorem LL.len {T : Ty} {P : T.den → Prop} {k : Nat} {xs : List PV} (h : LL T P k xs) : xs.length = k := by
  obtain ⟨vs, h1, h2, _⟩ := h
  rw [All2.length h1, h2]

theorem flat_bound {α β : Type} {f : α → List β} {c : Nat} : ∀ {vs : List α}, (∀ v ∈ vs, (f v).length ≤ c) → (vs.flatMap f).length ≤ vs.length * c
  | [], _ => by simp
  | v :: vs, h => by
    rw [List.flatMap_cons, List.length_append, List.length_cons, Nat.add_mul, Nat.one_mul]
    have := h v (by simp)
    have := flat_bound (vs := vs) (fun u hu => h u (by simp [hu]))
    omega

theorem words_nums : ∀ (n : Nat) (v : (Ty.nums n).den), (wordsV (Ty.nums n) v).length = n + 1
  | 0, _ => rfl
  | n + 1, (x, v) => by
    have := words_nums n v
    show ([x] ++ wordsV (Ty.nums n) v).length = _
    rw [List.length_append, this]; simp; omega

theorem chunks_le : ∀ (f : Nat) (l : List Int), (chunks8 f l).length ≤ l.length
  | 0, l => by simp [chunks8]
  | f + 1, [] => by simp [chunks8]
  | f + 1, x :: l => by
    simp only [chunks8, List.length_cons]
    have := chunks_le f (List.drop 8 (x :: l))
    simp only [List.length_drop, List.length_cons] at this
    omega

theorem okNums : ∀ (n : Nat) (v : (Ty.nums n).den), (∀ x ∈ Ty.toL n v, I64 x) → OkV (Ty.nums n) v
  | 0, x, h => h x (by show x ∈ [x]; simp)
  | n + 1, (x, v), h => ⟨h x (by show x ∈ x :: Ty.toL n v; simp), okNums n v (fun y hy => h y (by show y ∈ x :: Ty.toL n v; simp [hy]))⟩

end Go.Bm

/- The entry that is made: its parts. -/
namespace Go.Bm
open Go Go.Proofs

abbrev AC (ns : List Int) : List PV := [.int .i64 (numAt ns 0), .int .i64 (numAt ns 1), .int .i64 (numAt ns 2), .int .i64 (numAt ns 3), .int .i64 (numAt ns 4)]
abbrev SC (ns : List Int) (t : Tok) (xs : List PV) : List PV := [.int .i64 (numAt ns 5), .int .i64 (numAt ns 0), .int .i64 (numAt ns 1), .int .i64 (numAt ns 2), .int .i64 (numAt ns 3), .int .i64 (numAt ns 4), .int .i64 (numAt ns 6), .int .i64 0, .int .i64 0, .sl t 3 xs, .int .i64 (numAt ns 7)]
abbrev EC (ns zs : List Int) (tkn tkb t1 t2 t3 t4 t5 t6 : Tok) (x1 x2 x3 x4 x5 x6 : List PV) : List PV := [.int .i64 (numAt ns 8), .sl tkb 1 (byts zs), .sl tkn 1 (ints ns), .sl t1 11 x1, .sl t2 10 x2, .int .i64 (numAt ns 9), .int .i64 (numAt ns 10), .sl t3 8 x3,
  .int .i64 (numAt ns 5), .int .i64 (numAt ns 0), .int .i64 (numAt ns 1), .int .i64 (numAt ns 2), .int .i64 (numAt ns 3), .int .i64 (numAt ns 4), .int .i64 (numAt ns 6), .int .i64 0, .int .i64 0, .sl .full 3 [], .int .i64 (numAt ns 7), .sl t4 3 x4, .sl t5 3 x5, .sl t6 1 x6]


/-- A fact that is made. -/
abbrev FC (b : Bool) (m y p : Int) (f1 f2 f3 f4 : Tok) (y1 y2 y3 y4 : List PV) : List PV := [.bool b, .sl f1 5 y1, .sl f2 1 y2, .sl f3 6 y3, .sl f4 1 y4, .int .i64 m, .int .i64 y, .int .i64 p]

theorem numAt_i64 {ns : List Int} (h : ∀ n ∈ ns, I64 n) (k : Nat) : I64 (numAt ns k) := by
  unfold numAt
  rw [List.getD_eq_getElem?_getD]
  cases hk : ns[k]? with
  | none => exact ⟨by decide, by decide⟩
  | some n => exact h n (List.mem_of_getElem? hk)

def v3 (a b c : Int) : (Ty.nums 2).den := (a, b, c)
theorem v3_rep (a b c : Int) : Rep (.nums 2) [.int .i64 a, .int .i64 b, .int .i64 c] (v3 a b c) := nums_rep 2 (v3 a b c)

def vA (ns : List Int) : TAbs.den := (numAt ns 0, numAt ns 1, numAt ns 2, numAt ns 3, numAt ns 4)

theorem abs_rep (ns : List Int) : Rep TAbs (AC ns) (vA ns) := nums_rep 4 (vA ns)
theorem absV_ok {ns : List Int} (h : ∀ n ∈ ns, I64 n) : OkV TAbs (vA ns) := ⟨numAt_i64 h 0, numAt_i64 h 1, numAt_i64 h 2, numAt_i64 h 3, numAt_i64 h 4⟩

theorem pairs_len (vs : List (Ty.nums 2).den) : (rwPairs vs).length = 1 + vs.length * 3 := by
  simp only [rwPairs, List.length_cons]
  have : (vs.flatMap (Ty.toL 2)).length = vs.length * 3 := by
    induction vs with
    | nil => rfl
    | cons v vs ih => rw [List.flatMap_cons, List.length_append, toL_length, ih, List.length_cons]; omega
  omega

theorem nums_flat (n : Nat) (vs : List (Ty.nums n).den) : (vs.flatMap (Ty.toL n)).length = vs.length * (n + 1) := by
  induction vs with
  | nil => simp
  | cons v vs ih => rw [List.flatMap_cons, List.length_append, toL_length, ih, List.length_cons, Nat.add_mul, Nat.one_mul]; omega
theorem words_flat (n : Nat) (vs : List (Ty.nums n).den) : (vs.flatMap (wordsV (Ty.nums n))).length = vs.length * (n + 1) := by
  induction vs with
  | nil => simp
  | cons v vs ih => rw [List.flatMap_cons, List.length_append, words_nums, ih, List.length_cons, Nat.add_mul, Nat.one_mul]; omega

theorem sum_rep {ns : List Int} {tp : Tok} {xp : List PV} {kp : Nat} (h : ∀ n ∈ ns, I64 n) (hp : LL (.nums 2) (OkV (.nums 2)) kp xp) (hk : kp ≤ 3) : ∃ v, Rep TSum (SC ns tp xp) v ∧ S1 v := by
  obtain ⟨vp, p1, p2, p3⟩ := hp
  have z : I64 0 := ⟨by decide, by decide⟩
  refine ⟨(numAt ns 5, vA ns, (v3 (numAt ns 6) 0 0), vp, numAt ns 7), ?_, ?_, ?_, ?_⟩
  · exact ⟨[.int .i64 (numAt ns 5)], _, rfl, rfl, AC ns, _, rfl, abs_rep ns, [.int .i64 (numAt ns 6), .int .i64 0, .int .i64 0], _, rfl, nums_rep 2 (v3 (numAt ns 6) 0 0), [.sl tp 3 xp], [.int .i64 (numAt ns 7)], rfl, ⟨tp, xp, rfl, p1⟩, rfl⟩
  · exact ⟨numAt_i64 h 5, absV_ok h, ⟨numAt_i64 h 6, z, z⟩, ⟨by unfold wmax; omega, p3⟩, numAt_i64 h 7⟩
  · have e1 := words_flat 2 vp
    simp only [wordsV, List.length_append, List.length_cons, List.length_nil, words_nums]
    rw [e1]; omega
  · simp only [rwSum, List.length_append, List.length_cons, List.length_nil, pairs_len, toL_length]
    omega

theorem words_ints : ∀ vs : List Int, (vs.flatMap (wordsV .int)).length = vs.length
  | [] => rfl
  | v :: vs => by rw [List.flatMap_cons, List.length_append, words_ints vs]; simp [wordsV]; omega

theorem ref_len (v : TRef.den) : (wordsV TRef v).length = 6 := by
  obtain ⟨s, a⟩ := v
  show ([s] ++ wordsV TAbs a).length = 6
  rw [List.length_append, words_nums]; rfl

theorem rwRef_len (v : TRef.den) : (rwRef v).length = 6 := by
  obtain ⟨s, a⟩ := v
  show (s :: Ty.toL 4 a).length = 6
  rw [List.length_cons, toL_length]

theorem flat_const {α β : Type} {f : α → List β} {c : Nat} (h : ∀ v, (f v).length = c) (vs : List α) : (vs.flatMap f).length = vs.length * c := by
  induction vs with
  | nil => simp
  | cons v vs ih => rw [List.flatMap_cons, List.length_append, h, ih, List.length_cons, Nat.add_mul, Nat.one_mul]; omega

/-- Few numbers. -/
def Few (g : List Int) : Prop := g.length ≤ 3 ∧ ∀ n ∈ g, I64 n

theorem fact_rep {b : Bool} {m y p : Int} {f1 f2 f3 f4 : Tok} {y1 y2 y3 y4 : List PV} {j : Nat} (hm : I64 m) (hy : I64 y) (hp : I64 p) (hj : j ≤ 3) (h1 : LL TAbs (OkV TAbs) j y1) (h2 : LL (.list .int) Few j y2) (h3 : LL TRef (OkV TRef) j y3) (h4 : LL .int I64 j y4) :
    ∃ v, Rep TFact (FC b m y p f1 f2 f3 f4 y1 y2 y3 y4) v ∧ S3 v := by
  obtain ⟨u1, a1, a2, a3⟩ := h1
  obtain ⟨u2, b1, b2, b3⟩ := h2
  obtain ⟨u3, c1, c2, c3⟩ := h3
  obtain ⟨u4, d1, d2, d3⟩ := h4
  have hg : ∀ g ∈ u2, (wordsV (.list .int) g).length ≤ 4 := by
    intro g hg
    have := (b3 g hg).1
    show ((g.length : Int) :: g.flatMap (wordsV .int)).length ≤ 4
    rw [List.length_cons, words_ints]; omega
  have hg2 : ∀ g ∈ u2, (rwInts g).length ≤ 4 := by
    intro g hg
    have := (b3 g hg).1
    simp only [rwInts, List.length_cons]; omega
  have e1 := words_flat 4 u1
  have e2 := flat_bound hg
  have e3 := flat_const ref_len u3
  have e4 := words_ints u4
  have g1 := nums_flat 4 u1
  have g2 := flat_bound hg2
  have g3 := flat_const rwRef_len u3
  refine ⟨(b, u1, u2, u3, u4, v3 m y p), ?_, ?_, ?_, ?_⟩
  · exact ⟨[.bool b], _, rfl, rfl, [.sl f1 5 y1], _, rfl, ⟨f1, y1, rfl, a1⟩, [.sl f2 1 y2], _, rfl, ⟨f2, y2, rfl, b1⟩, [.sl f3 6 y3], _, rfl, ⟨f3, y3, rfl, c1⟩, [.sl f4 1 y4], _, rfl, ⟨f4, y4, rfl, d1⟩, v3_rep m y p⟩
  · exact ⟨trivial, ⟨by unfold wmax; omega, a3⟩, ⟨by unfold wmax; omega, fun g hg => ⟨by have := (b3 g hg).1; unfold wmax; omega, (b3 g hg).2⟩⟩, ⟨by unfold wmax; omega, c3⟩, ⟨by unfold wmax; omega, d3⟩, hm, hy, hp⟩
  · have w1 : (wordsV TFact (b, u1, u2, u3, u4, v3 m y p)).length = 1 + ((1 + (u1.flatMap (wordsV TAbs)).length) + ((1 + (u2.flatMap (wordsV (.list .int))).length) + ((1 + (u3.flatMap (wordsV TRef)).length) + ((1 + (u4.flatMap (wordsV .int)).length) + 3)))) := by
      have := words_nums 2 (v3 m y p)
      show ([if b then 1 else 0] ++ (((u1.length : Int) :: u1.flatMap (wordsV TAbs)) ++ (((u2.length : Int) :: u2.flatMap (wordsV (.list .int))) ++ (((u3.length : Int) :: u3.flatMap (wordsV TRef)) ++ (((u4.length : Int) :: u4.flatMap (wordsV .int)) ++ wordsV (.nums 2) (v3 m y p)))))).length = _
      simp only [List.length_append, List.length_cons, List.length_nil, this]; omega
    rw [w1, e1, e3, e4]; omega
  · simp only [rwFact, List.length_append, List.length_cons, List.length_nil, toL_length]
    have : (rwInts u4).length = 1 + u4.length := by simp only [rwInts, List.length_cons]; omega
    rw [this, g1, g3]; omega

theorem entry_rep {ns zs : List Int} {tkn tkb t1 t2 t3 t4 t5 t6 : Tok} {x1 x2 x3 x4 x5 x6 : List PV} {k : Nat} (hns : ∀ n ∈ ns, I64 n) (hzs : Byt zs) (hln : ns.length ≤ 20) (hlz : zs.length ≤ 40) (hk : k ≤ 3)
    (h1 : LL TSum S1 k x1) (h2 : LL (.nums 9) (OkV (.nums 9)) k x2) (h3 : LL TFact S3 k x3) (h4 : LL (.nums 2) (OkV (.nums 2)) k x4) (h5 : LL (.nums 2) (OkV (.nums 2)) k x5) (h6 : LL .int I64 k x6) :
    ∃ v, Rep TEntry (EC ns zs tkn tkb t1 t2 t3 t4 t5 t6 x1 x2 x3 x4 x5 x6) v ∧ OkV TEntry v ∧ (wordsV TEntry v).length ≤ 10000 ∧ (rwEntry v).length ≤ 10000 := by
  obtain ⟨u1, a1, a2, a3⟩ := h1
  obtain ⟨u2, b1, b2, b3⟩ := h2
  obtain ⟨u3, c1, c2, c3⟩ := h3
  obtain ⟨u4, d1, d2, d3⟩ := h4
  obtain ⟨u5, e1, e2, e3⟩ := h5
  obtain ⟨u6, g1, g2, g3⟩ := h6
  obtain ⟨s, s1, s2, s3, s4⟩ := sum_rep (tp := .full) hns LL.nil (Nat.zero_le _)
  have hni : RepL .int (ints ns) ns := repL_ints ns
  have m1 := flat_bound (fun v hv => (a3 v hv).2.1)
  have m1' := flat_bound (fun v hv => (a3 v hv).2.2)
  have m2 := words_flat 9 u2
  have m2' := nums_flat 9 u2
  have m3 := flat_bound (fun v hv => (c3 v hv).2.1)
  have m3' := flat_bound (fun v hv => (c3 v hv).2.2)
  have m4 := words_flat 2 u4
  have m4' := nums_flat 2 u4
  have m5 := words_flat 2 u5
  have m5' := pairs_len u5
  have m6 := words_ints u6
  have mn := words_ints ns
  have mc := chunks_le zs.length zs
  refine ⟨((numAt ns 8, zs, ns, u1, u2, numAt ns 9), numAt ns 10, u3, s, u4, u5, u6), ?_, ?_, ?_, ?_⟩
  · exact ⟨[.int .i64 (numAt ns 8), .sl tkb 1 (byts zs), .sl tkn 1 (ints ns), .sl t1 11 x1, .sl t2 10 x2, .int .i64 (numAt ns 9)], _, rfl, ⟨[.int .i64 (numAt ns 8)], _, rfl, rfl, [.sl tkb 1 (byts zs)], _, rfl, ⟨tkb, rfl⟩, [.sl tkn 1 (ints ns)], _, rfl, ⟨tkn, _, rfl, hni⟩, [.sl t1 11 x1], _, rfl, ⟨t1, x1, rfl, a1⟩, [.sl t2 10 x2], _, rfl, ⟨t2, x2, rfl, b1⟩, rfl⟩,
      [.int .i64 (numAt ns 10)], _, rfl, rfl, [.sl t3 8 x3], _, rfl, ⟨t3, x3, rfl, c1⟩, SC ns .full [], _, rfl, s1, [.sl t4 3 x4], _, rfl, ⟨t4, x4, rfl, d1⟩, [.sl t5 3 x5], _, rfl, ⟨t5, x5, rfl, e1⟩, t6, x6, rfl, g1⟩
  · exact ⟨⟨numAt_i64 hns 8, ⟨hzs, by unfold wmax; omega⟩, ⟨by unfold wmax; omega, hns⟩, ⟨by unfold wmax; omega, fun v hv => (a3 v hv).1⟩, ⟨by unfold wmax; omega, b3⟩, numAt_i64 hns 9⟩, numAt_i64 hns 10, ⟨by unfold wmax; omega, fun v hv => (c3 v hv).1⟩, s2, ⟨by unfold wmax; omega, d3⟩, ⟨by unfold wmax; omega, e3⟩, ⟨by unfold wmax; omega, g3⟩⟩
  · have w1 : (wordsV TEntry ((numAt ns 8, zs, ns, u1, u2, numAt ns 9), numAt ns 10, u3, s, u4, u5, u6)).length = (1 + ((1 + (chunks8 zs.length zs).length) + ((1 + (ns.flatMap (wordsV .int)).length) + ((1 + (u1.flatMap (wordsV TSum)).length) + ((1 + (u2.flatMap (wordsV (.nums 9))).length) + 1))))) + (1 + ((1 + (u3.flatMap (wordsV TFact)).length) + ((wordsV TSum s).length + ((1 + (u4.flatMap (wordsV (.nums 2))).length) + ((1 + (u5.flatMap (wordsV (.nums 2))).length) + (1 + (u6.flatMap (wordsV .int)).length)))))) := by
      show (([numAt ns 8] ++ (((zs.length : Int) :: (chunks8 zs.length zs).map packC) ++ (((ns.length : Int) :: ns.flatMap (wordsV .int)) ++ (((u1.length : Int) :: u1.flatMap (wordsV TSum)) ++ (((u2.length : Int) :: u2.flatMap (wordsV (.nums 9))) ++ [numAt ns 9]))))) ++ ([numAt ns 10] ++ (((u3.length : Int) :: u3.flatMap (wordsV TFact)) ++ (wordsV TSum s ++ (((u4.length : Int) :: u4.flatMap (wordsV (.nums 2))) ++ (((u5.length : Int) :: u5.flatMap (wordsV (.nums 2))) ++ ((u6.length : Int) :: u6.flatMap (wordsV .int)))))))).length = _
      simp only [List.length_append, List.length_cons, List.length_nil, List.length_map]; omega
    rw [w1, mn, m2, m4, m5, m6]; omega
  · have f1 : (rwInts ns).length = 1 + ns.length := by simp only [rwInts, List.length_cons]; omega
    have f6 : (rwInts u6).length = 1 + u6.length := by simp only [rwInts, List.length_cons]; omega
    have fb : (rwBytes zs).length ≤ 10 := by simp only [rwBytes, List.length_cons, List.length_map, List.length_range]; omega
    simp only [rwEntry, rwNeed, List.length_append, List.length_cons, List.length_nil]
    rw [f1, f6, m2', m4', m5']; omega

theorem nums_of : ∀ (n : Nat) (ws : List Int), ws.length = n + 1 → ∃ v : (Ty.nums n).den, Ty.toL n v = ws
  | 0, [w], _ => ⟨w, rfl⟩
  | n + 1, w :: ws, h => by
    obtain ⟨v, hv⟩ := nums_of n ws (by simpa using h)
    exact ⟨(w, v), by show w :: Ty.toL n v = _; rw [hv]⟩

theorem wrap_u8_range (x : Int) : 0 ≤ IntKind.wrap .u8 x ∧ IntKind.wrap .u8 x ≤ 255 := by
  have h1 := Int.emod_nonneg x (show (256 : Int) ≠ 0 by decide)
  have h2 := Int.emod_lt_of_pos x (show (0 : Int) < 256 by decide)
  have : IntKind.wrap .u8 x = x % 256 := by
    simp only [IntKind.wrap, IntKind.bits, IntKind.signed, Bool.false_and, Bool.false_eq_true, if_false]
    rfl
  rw [this]; omega

theorem rule_k {k : Nat} (hk : k < 3) {d : Int} (hd : 0 ≤ d ∧ d ≤ 255) {μ : Mem} {L : Lv} {K KP : KA}
    (hK : ∀ ws μ' L', ws.length = 10 → (∀ w ∈ ws, I64 w) → Keeps μ L μ' L' .full → K (.agg (ints ws)) μ' L') :
    ACall Tryz.prog 13 [.agg [.int .u8 (k : Nat), .int .u8 0, .int .u8 0, .int .u8 0, .int .u8 0, .int .i16 0, .int .i16 0, .int .u8 d, .int .u8 0]] μ L K KP := by
  have fin : ∀ (o4 r : Int), 4 ≤ o4 → o4 ≤ 6 → -40 ≤ r → r ≤ 400 → IntKind.wrap .i64 (4 + IntKind.wrap .i64 (((k : Nat) : Int).tmod 7)) = o4 → Gives0 25 [.int .i64 o4, .int .i64 (-20), .int .i64 (-20)] (.int .i64 r) →
      ACall Tryz.prog 13 [.agg [.int .u8 (k : Nat), .int .u8 0, .int .u8 0, .int .u8 0, .int .u8 0, .int .i16 0, .int .i16 0, .int .u8 d, .int .u8 0]] μ L K KP := by
    intro o4 r h1 h2 h3 h4 ho h25
    refine rule_ok ho h25 hd ?_
    intro a b μ' L' a1 a2 b1 b2 kp
    refine hK _ _ _ rfl ?_ kp
    intro w hw
    simp only [List.mem_cons, List.not_mem_nil, or_false] at hw
    unfold I64
    rcases hw with rfl | rfl | rfl | rfl | rfl | rfl | rfl | rfl | rfl | rfl <;> omega
  have w4 : ∀ j : Int, 0 ≤ j → j < 3 → j.tmod 7 = j := by
    intro j h1 h2
    have : j = 0 ∨ j = 1 ∨ j = 2 := by omega
    rcases this with rfl | rfl | rfl <;> rfl
  have e : IntKind.wrap .i64 (4 + IntKind.wrap .i64 (((k : Nat) : Int).tmod 7)) = 4 + (k : Int) := by
    have e1 : IntKind.wrap .i64 ((k : Nat) : Int) = (k : Int) := IntWalk.i64_in _ (by omega)
    rw [w4 _ (by omega) (by omega), e1, IntWalk.i64_in _ (by omega)]
  match k, hk with
  | 0, _ => exact fin 4 (-40) (by omega) (by omega) (by omega) (by omega) e op_add
  | 1, _ => exact fin 5 0 (by omega) (by omega) (by omega) (by omega) e op_sub
  | 2, _ => exact fin 6 400 (by omega) (by omega) (by omega) (by omega) e op_mul

/-- One appends a value of a kind to a slice of one's own. -/
theorem app_ll {T : Ty} {P : T.den → Prop} {k : Nat} {t : Regs} {μ0 μ : Mem} {L0 L : Lv} {ts : List Tok} (i : Nat) {sz bytes : Nat} {x y : AX} {tk tk2 : Tok} {xs : List PV} {e : PV} {v : T.den} {K : KA} (h : Ow μ0 L0 μ L ts) (hi : ts[i]? = some tk) (hl : LL T P k xs) (he : Rep T e.flat v) (hv : P v)
    (hx : rd t x = .sl tk sz xs) (hy : rd t y = .sl tk2 sz [e]) (hb : (k + 1) * bytes ≤ 140737488355328 ∧ k + 1 ≤ 140737488355328) (hK : ∀ b X, Ow μ0 L0 μ (L.mv tk b) (ts.set i (.tk b)) → LL T P (k + 1) X → K (.sl (.tk b) sz X) μ (L.mv tk b)) : opM (.append sz bytes x y) t μ L K :=
  app_ow i h hi hx hy (by rw [hl.len]; exact hb) fun b ho => hK b _ ho (hl.snoc he hv)

end Go.Bm

/- The entry that is made. -/
namespace Go.Bm
open Go Go.Proofs

/-- What the loop of Made holds. -/
structure MI (ns zs : List Int) (tkn tkb : Tok) (μ : Mem) (L : Lv) (qa qs qe qr k : Nat) (μ1 : Mem) (L1 : Lv) (t1 t2 t3 t4 t5 t6 tp : Tok) (x1 x2 x3 x4 x5 x6 xp : List PV) (kp : Nat) : Prop where
  ga : μ1 qa = some (.cells (AC ns))
  gs : μ1 qs = some (.cells (SC ns tp xp))
  ge : μ1 qe = some (.cells (EC ns zs tkn tkb t1 t2 t3 t4 t5 t6 x1 x2 x3 x4 x5 x6))
  gr : μ1 qr = some (.cells ZE)
  ow : Ow μ L μ1 L1 [t1, t2, t3, t4, t5, t6]
  h1 : LL TSum S1 k x1
  h2 : LL (.nums 9) (OkV (.nums 9)) k x2
  h3 : LL TFact S3 k x3
  h4 : LL (.nums 2) (OkV (.nums 2)) k x4
  h5 : LL (.nums 2) (OkV (.nums 2)) k x5
  h6 : LL .int I64 k x6
  hp : LL (.nums 2) (OkV (.nums 2)) kp xp
  hkp : kp ≤ 3

section
variable {ns zs : List Int} {tkn tkb : Tok} {μ : Mem} {L : Lv} {qa qs qe qr k : Nat} {μ1 : Mem} {L1 : Lv} {t1 t2 t3 t4 t5 t6 tp : Tok} {x1 x2 x3 x4 x5 x6 xp : List PV} {kp : Nat}
theorem MI.call {μ2 : Mem} {L2 : Lv} {tk : Tok} (h : MI ns zs tkn tkb μ L qa qs qe qr k μ1 L1 t1 t2 t3 t4 t5 t6 tp x1 x2 x3 x4 x5 x6 xp kp) (k1 : Keeps μ1 L1 μ2 L2 tk) : MI ns zs tkn tkb μ L qa qs qe qr k μ2 L2 t1 t2 t3 t4 t5 t6 tp x1 x2 x3 x4 x5 x6 xp kp :=
  ⟨k1.at h.ga, k1.at h.gs, k1.at h.ge, k1.at h.gr, h.ow.call k1, h.h1, h.h2, h.h3, h.h4, h.h5, h.h6, h.hp, h.hkp⟩
end

theorem made_ok {tkn tkb : Tok} {ns zs : List Int} {μ : Mem} {L : Lv} {K KP : KA} (hns : ∀ n ∈ ns, I64 n) (hzs : Byt zs) (hln : ns.length ≤ 20) (hlz : zs.length ≤ 40)
    (hK : ∀ cs v μ' L', Rep TEntry cs v → OkV TEntry v → (wordsV TEntry v).length ≤ 10000 → (rwEntry v).length ≤ 10000 → Keeps μ L μ' L' .full → K (.agg cs) μ' L') :
    ACall Tryz.prog 5 [.agg [.sl tkn 1 (ints ns), .sl tkb 1 (byts zs)]] μ L K KP := by
  refine acall_of_aw mix fn5 (by simp) ?_
  unfold ac5
  have hag : aggOf Tryz.prog 42 = some (some 22) := by kernel_rfl
  have nat0 : ((0 : Nat) : Int) = 0 := rfl
  have num : ∀ k : Nat, Gives0 12 [.agg [.sl tkn 1 (ints ns), .sl tkb 1 (byts zs)], .int .i64 (k : Nat)] (.int .i64 (numAt ns k)) := fun k => number_ok tkn tkb ns (byts zs) k
  simp only [wkB, wkC, kernP, rd, rds, reduceIte, Nat.reduceEqDiff, Nat.reduceAdd, binop, intOp_mul, unop, shiftOp, strOp, isNil, fillElems, fillParts, elemZero, FQ, LeaveA, resA, resPV, resPVs, PV.fits, wkF, PV.leaf, Nat.reduceBEq, Nat.reduceLT, Nat.reduceLeDiff, Int.reduceLT, Int.reduceLE, Int.reduceToNat]
  intro qr hqr
  have o0 : Ow μ L (μ.set qr (.cells ZE)) L [] := ⟨Keeps.refl.set hqr.1, by simp, by simp, by simp⟩
  refine aw_drawF (by decide) (fun _ _ _ h => h) ?_
  simp only [wkB, wkC, kernP, rd, rds, reduceIte, Nat.reduceEqDiff, Nat.reduceAdd, binop, intOp_mul, unop, shiftOp, strOp, isNil, fillElems, fillParts, elemZero, FQ, LeaveA, resA, resPV, resPVs, PV.fits, wkF, PV.leaf, Nat.reduceBEq, Nat.reduceLT, Nat.reduceLeDiff, Int.reduceLT, Int.reduceLE, Int.reduceToNat]
  refine num 0 _ _ _ _ ?_
  intro μ1 L1 k1
  simp only [wkB, wkC, kernP, rd, rds, reduceIte, Nat.reduceEqDiff, Nat.reduceAdd, binop, intOp_mul, unop, shiftOp, strOp, isNil, fillElems, fillParts, elemZero, FQ, LeaveA, resA, resPV, resPVs, PV.fits, wkF, PV.leaf, Nat.reduceBEq, Nat.reduceLT, Nat.reduceLeDiff, Int.reduceLT, Int.reduceLE, Int.reduceToNat]
  refine num 1 _ _ _ _ ?_
  intro μ2 L2 k2
  simp only [wkB, wkC, kernP, rd, rds, reduceIte, Nat.reduceEqDiff, Nat.reduceAdd, binop, intOp_mul, unop, shiftOp, strOp, isNil, fillElems, fillParts, elemZero, FQ, LeaveA, resA, resPV, resPVs, PV.fits, wkF, PV.leaf, Nat.reduceBEq, Nat.reduceLT, Nat.reduceLeDiff, Int.reduceLT, Int.reduceLE, Int.reduceToNat]
  refine num 2 _ _ _ _ ?_
  intro μ3 L3 k3
  simp only [wkB, wkC, kernP, rd, rds, reduceIte, Nat.reduceEqDiff, Nat.reduceAdd, binop, intOp_mul, unop, shiftOp, strOp, isNil, fillElems, fillParts, elemZero, FQ, LeaveA, resA, resPV, resPVs, PV.fits, wkF, PV.leaf, Nat.reduceBEq, Nat.reduceLT, Nat.reduceLeDiff, Int.reduceLT, Int.reduceLE, Int.reduceToNat]
  refine num 3 _ _ _ _ ?_
  intro μ4 L4 k4
  simp only [wkB, wkC, kernP, rd, rds, reduceIte, Nat.reduceEqDiff, Nat.reduceAdd, binop, intOp_mul, unop, shiftOp, strOp, isNil, fillElems, fillParts, elemZero, FQ, LeaveA, resA, resPV, resPVs, PV.fits, wkF, PV.leaf, Nat.reduceBEq, Nat.reduceLT, Nat.reduceLeDiff, Int.reduceLT, Int.reduceLE, Int.reduceToNat]
  refine num 4 _ _ _ _ ?_
  intro μ5 L5 k5
  have o1 := ((((o0.call k1).call k2).call k3).call k4).call k5
  have gr5 : μ5 qr = some (.cells ZE) := k5.at (k4.at (k3.at (k2.at (k1.at at_self))))
  clear k1 k2 k3 k4 k5
  simp only [wkB, wkC, kernP, rd, rds, reduceIte, Nat.reduceEqDiff, Nat.reduceAdd, binop, intOp_mul, unop, shiftOp, strOp, isNil, fillElems, fillParts, elemZero, FQ, LeaveA, resA, resPV, resPVs, PV.fits, wkF, PV.leaf, Nat.reduceBEq, Nat.reduceLT, Nat.reduceLeDiff, Int.reduceLT, Int.reduceLE, Int.reduceToNat, spl, set_set]
  intro qa hqa
  have hra : ¬ qr = qa := fun e => by rw [e, hqa.1] at gr5; cases gr5
  have na : μ qa = none := (o1.kp.fresh hqa).1
  refine aw_drawV (W := fun x => x = qa) (by decide) (fun _ _ _ h => h) ?_
  simp only [wkB, wkV, wkC, kernP, rd, rds, reduceIte, Nat.reduceEqDiff, Nat.reduceAdd, binop, intOp_mul, unop, shiftOp, strOp, isNil, fillElems, fillParts, elemZero, FQ, LeaveA, resA, resPV, resPVs, PV.fits, wkF, PV.leaf, Nat.reduceBEq, Nat.reduceLT, Nat.reduceLeDiff, Int.reduceLT, Int.reduceLE, Int.reduceToNat, set_set]
  have o2 := o1.set (o := .cells (ints [numAt ns 0, numAt ns 1, numAt ns 2, numAt ns 3, numAt ns 4])) na
  refine num 5 _ _ _ _ ?_
  intro μ6 L6 k1
  simp only [wkB, wkV, wkC, kernP, rd, rds, reduceIte, Nat.reduceEqDiff, Nat.reduceAdd, binop, intOp_mul, unop, shiftOp, strOp, isNil, fillElems, fillParts, elemZero, FQ, LeaveA, resA, resPV, resPVs, PV.fits, wkF, PV.leaf, Nat.reduceBEq, Nat.reduceLT, Nat.reduceLeDiff, Int.reduceLT, Int.reduceLE, Int.reduceToNat, k1.stay]
  refine num 6 _ _ _ _ ?_
  intro μ7 L7 k2
  simp only [wkB, wkV, wkC, kernP, rd, rds, reduceIte, Nat.reduceEqDiff, Nat.reduceAdd, binop, intOp_mul, unop, shiftOp, strOp, isNil, fillElems, fillParts, elemZero, FQ, LeaveA, resA, resPV, resPVs, PV.fits, wkF, PV.leaf, Nat.reduceBEq, Nat.reduceLT, Nat.reduceLeDiff, Int.reduceLT, Int.reduceLE, Int.reduceToNat, k2.stay]
  refine num 7 _ _ _ _ ?_
  intro μ8 L8 k3
  have ga8 : μ8 qa = some (.cells (AC ns)) := k3.at (k2.at (k1.at at_self))
  have gr8 : μ8 qr = some (.cells ZE) := k3.at (k2.at (k1.at (at_set hra gr5)))
  have o3 := ((o2.call k1).call k2).call k3
  simp only [wkB, wkV, wkC, kernP, rd, rds, reduceIte, Nat.reduceEqDiff, Nat.reduceAdd, binop, intOp_mul, unop, shiftOp, strOp, isNil, fillElems, fillParts, elemZero, FQ, LeaveA, resA, resPV, resPVs, PV.fits, wkF, PV.leaf, Nat.reduceBEq, Nat.reduceLT, Nat.reduceLeDiff, Int.reduceLT, Int.reduceLE, Int.reduceToNat, k3.stay]
  clear k1 k2 k3
  intro qs hqs
  have has : ¬ qa = qs := fun e => by rw [e, hqs.1] at ga8; cases ga8
  have hrs : ¬ qr = qs := fun e => by rw [e, hqs.1] at gr8; cases gr8
  have nqs : μ qs = none := (o3.kp.fresh hqs).1
  refine ⟨(new_stay _ hqs.1 _ _).mpr trivial, ?_⟩
  have o4 := o3.set (o := .cells (SC ns .full [])) nqs
  refine aw_drawV (W := fun x => x = qs) (by decide) (fun _ _ _ h => h) ?_
  simp only [wkB, wkV, wkC, kernP, rd, rds, reduceIte, Nat.reduceEqDiff, Nat.reduceAdd, binop, intOp_mul, unop, shiftOp, strOp, isNil, fillElems, fillParts, elemZero, FQ, LeaveA, resA, resPV, resPVs, PV.fits, wkF, PV.leaf, Nat.reduceBEq, Nat.reduceLT, Nat.reduceLeDiff, Int.reduceLT, Int.reduceLE, Int.reduceToNat, set_set, spl]
  refine num 8 _ _ _ _ ?_
  intro μ9 L9 k1
  simp only [wkB, wkV, wkC, kernP, rd, rds, reduceIte, Nat.reduceEqDiff, Nat.reduceAdd, binop, intOp_mul, unop, shiftOp, strOp, isNil, fillElems, fillParts, elemZero, FQ, LeaveA, resA, resPV, resPVs, PV.fits, wkF, PV.leaf, Nat.reduceBEq, Nat.reduceLT, Nat.reduceLeDiff, Int.reduceLT, Int.reduceLE, Int.reduceToNat, k1.stay]
  refine num 9 _ _ _ _ ?_
  intro μ10 L10 k2
  simp only [wkB, wkV, wkC, kernP, rd, rds, reduceIte, Nat.reduceEqDiff, Nat.reduceAdd, binop, intOp_mul, unop, shiftOp, strOp, isNil, fillElems, fillParts, elemZero, FQ, LeaveA, resA, resPV, resPVs, PV.fits, wkF, PV.leaf, Nat.reduceBEq, Nat.reduceLT, Nat.reduceLeDiff, Int.reduceLT, Int.reduceLE, Int.reduceToNat, k2.stay]
  refine num 10 _ _ _ _ ?_
  intro μ11 L11 k3
  have ga11 : μ11 qa = some (.cells (AC ns)) := k3.at (k2.at (k1.at (at_set has ga8)))
  have gr11 : μ11 qr = some (.cells ZE) := k3.at (k2.at (k1.at (at_set hrs gr8)))
  have gs11 : μ11 qs = some (.cells (SC ns .full [])) := k3.at (k2.at (k1.at at_self))
  have o5 := ((o4.call k1).call k2).call k3
  simp only [wkB, wkV, wkC, kernP, rd, rds, reduceIte, Nat.reduceEqDiff, Nat.reduceAdd, binop, intOp_mul, unop, shiftOp, strOp, isNil, fillElems, fillParts, elemZero, FQ, LeaveA, resA, resPV, resPVs, PV.fits, wkF, PV.leaf, Nat.reduceBEq, Nat.reduceLT, Nat.reduceLeDiff, Int.reduceLT, Int.reduceLE, Int.reduceToNat, k3.stay]
  clear k1 k2 k3
  intro qe hqe
  have hae : ¬ qa = qe := fun e => by rw [e, hqe.1] at ga11; cases ga11
  have hre : ¬ qr = qe := fun e => by rw [e, hqe.1] at gr11; cases gr11
  have hse : ¬ qs = qe := fun e => by rw [e, hqe.1] at gs11; cases gs11
  have nqe : μ qe = none := (o5.kp.fresh hqe).1
  refine ⟨(new_stay _ hqe.1 _ _).mpr trivial, ?_⟩
  simp only [wkB, wkC, kernP, rd, rds, reduceIte, Nat.reduceEqDiff, Nat.reduceAdd, binop, intOp_mul, unop, shiftOp, strOp, isNil, fillElems, fillParts, elemZero, FQ, LeaveA, resA, resPV, resPVs, PV.fits, wkF, PV.leaf, Nat.reduceBEq, Nat.reduceLT, Nat.reduceLeDiff, Int.reduceLT, Int.reduceLE, Int.reduceToNat, set_set, spl]
  have o6 := (o5.set (o := .cells (EC ns zs tkn tkb .full .full .full .full .full .full [] [] [] [] [] [])) nqe).more 6
  obtain ⟨n, hn⟩ : ∃ n, n = ns.length % 4 := ⟨_, rfl⟩
  have hn3 : n ≤ 3 := by omega
  have n4 : (4 : Int) ≠ 0 := by decide
  have hlen : (ints ns).length = ns.length := by simp
  have hrem : ((ns.length : Nat) : Int).tmod 4 = ((n : Nat) : Int) := by rw [hn]; rfl
  have nqa := na
  have nqr := hqr.1
  refine aw_loop (fun m σ => ∃ k t1 t2 t3 t4 t5 t6 tp x1 x2 x3 x4 x5 x6 xp kp, m = n - k ∧ k ≤ n ∧ σ.t 1 = .fpp [.sl tkn 1 (ints ns), .sl tkb 1 (byts zs)] ∧ σ.t 2 = .ptr qr 0 ∧ σ.t 3 = .ptr qa 0 ∧ σ.t 4 = .ptr qs 0 ∧ σ.t 5 = .ptr qe 0 ∧ σ.t 6 = .int .i64 (k : Nat) ∧
    MI ns zs tkn tkb μ L qa qs qe qr k σ.μ σ.L t1 t2 t3 t4 t5 t6 tp x1 x2 x3 x4 x5 x6 xp kp ∧ σ.df = []) n ⟨0, .full, .full, .full, .full, .full, .full, .full, [], [], [], [], [], [], [], 0, by omega, by omega, ?_⟩ ?_
  · simp only [wkB, wkC, kernP, rd, rds, reduceIte, Nat.reduceEqDiff, Nat.reduceAdd, binop, intOp_mul, unop, shiftOp, strOp, isNil, fillElems, fillParts, elemZero, FQ, LeaveA, resA, resPV, resPVs, PV.fits, wkF, PV.leaf, Nat.reduceBEq, Nat.reduceLT, Nat.reduceLeDiff, Int.reduceLT, Int.reduceLE, Int.reduceToNat]
    exact ⟨rfl, ⟨at_set hae ga11, at_set hse gs11, at_self, at_set hre gr11, o6, .nil, .nil, .nil, .nil, .nil, .nil, .nil, Nat.zero_le _⟩⟩
  clear o0 o1 o2 o3 o4 o5 o6 gr5 ga8 gr8 ga11 gr11 gs11 hqe hqs hqa
  rintro m ⟨t, μ1, L1, df⟩ ⟨k, t1, t2, t3, t4, t5, t6, tp, x1, x2, x3, x4, x5, x6, xp, kp, rfl, hk, s1, s2, s3, s4, s5, s6, I, h3⟩
  simp only at s1 s2 s3 s4 s5 s6 I h3
  subst h3
  by_cases hlt : k < n
  · simp only [wkB, wkC, kernP, rd, rds, reduceIte, Nat.reduceEqDiff, Nat.reduceAdd, binop, intOp_mul, unop, shiftOp, strOp, isNil, fillElems, fillParts, elemZero, FQ, LeaveA, resA, resPV, resPVs, PV.fits, wkF, PV.leaf, Nat.reduceBEq, Nat.reduceLT, Nat.reduceLeDiff, Int.reduceLT, Int.reduceLE, Int.reduceToNat, s1, s6, hlen, intOp_rem n4, hrem, dec_t hlt]
    refine aw_drawF (by decide) (fun _ _ _ h => h) ?_
    simp only [wkB, wkC, kernP, rd, rds, reduceIte, Nat.reduceEqDiff, Nat.reduceAdd, binop, intOp_mul, unop, shiftOp, strOp, isNil, fillElems, fillParts, elemZero, FQ, LeaveA, resA, resPV, resPVs, PV.fits, wkF, PV.leaf, Nat.reduceBEq, Nat.reduceLT, Nat.reduceLeDiff, Int.reduceLT, Int.reduceLE, Int.reduceToNat, s1, s6]
    refine num k _ _ _ _ ?_
    intro μ2 L2 k1
    simp only [wkB, wkC, kernP, rd, rds, reduceIte, Nat.reduceEqDiff, Nat.reduceAdd, binop, intOp_mul, unop, shiftOp, strOp, isNil, fillElems, fillParts, elemZero, FQ, LeaveA, resA, resPV, resPVs, PV.fits, wkF, PV.leaf, Nat.reduceBEq, Nat.reduceLT, Nat.reduceLeDiff, Int.reduceLT, Int.reduceLE, Int.reduceToNat]
    refine num 11 _ _ _ _ ?_
    intro μ3 L3 k2
    have I := (I.call k1).call k2
    clear k1 k2
    simp only [wkB, wkC, kernP, rd, rds, reduceIte, Nat.reduceEqDiff, Nat.reduceAdd, binop, intOp_mul, unop, shiftOp, strOp, isNil, fillElems, fillParts, elemZero, FQ, LeaveA, resA, resPV, resPVs, PV.fits, wkF, PV.leaf, Nat.reduceBEq, Nat.reduceLT, Nat.reduceLeDiff, Int.reduceLT, Int.reduceLE, Int.reduceToNat, spl, set_set]
    intro qf hqf
    have hfa : ¬ qa = qf := fun e => by have := I.ga; rw [e, hqf.1] at this; cases this
    have hfs : ¬ qs = qf := fun e => by have := I.gs; rw [e, hqf.1] at this; cases this
    have hfe : ¬ qe = qf := fun e => by have := I.ge; rw [e, hqf.1] at this; cases this
    have hfr : ¬ qr = qf := fun e => by have := I.gr; rw [e, hqf.1] at this; cases this
    have nqf : μ qf = none := (I.ow.kp.fresh hqf).1
    obtain ⟨bb, hbb⟩ : ∃ bb, bb = (((k : Nat) : Int) == 1) := ⟨_, rfl⟩
    rw [← hbb]
    refine aw_loop (fun m σ => ∃ j f1 f2 f3 f4 y1 y2 y3 y4, m = k - j ∧ j ≤ k ∧ σ.t 1 = .fpp [.sl tkn 1 (ints ns), .sl tkb 1 (byts zs)] ∧ σ.t 2 = .ptr qr 0 ∧ σ.t 3 = .ptr qa 0 ∧ σ.t 4 = .ptr qs 0 ∧ σ.t 5 = .ptr qe 0 ∧ σ.t 6 = .int .i64 (k : Nat) ∧ σ.t 7 = .ptr qf 0 ∧ σ.t 8 = .int .i64 (j : Nat) ∧
      MI ns zs tkn tkb μ L qa qs qe qr k σ.μ σ.L t1 t2 t3 t4 t5 t6 tp x1 x2 x3 x4 x5 x6 xp kp ∧ σ.μ qf = some (.cells (FC bb (numAt ns k) (numAt ns 11) k f1 f2 f3 f4 y1 y2 y3 y4)) ∧ Ow μ L σ.μ σ.L [t1, t2, t3, t4, t5, t6, f1, f2, f3, f4] ∧
      LL TAbs (OkV TAbs) j y1 ∧ LL (.list .int) Few j y2 ∧ LL TRef (OkV TRef) j y3 ∧ LL .int I64 j y4 ∧ σ.df = []) k ⟨0, .full, .full, .full, .full, [], [], [], [], by omega, by omega, ?_⟩ ?_
    · have o7 := (I.ow.set (o := .cells (FC bb (numAt ns k) (numAt ns 11) k .full .full .full .full [] [] [] [])) nqf)
      simp only [wkB, wkC, kernP, rd, rds, reduceIte, Nat.reduceEqDiff, Nat.reduceAdd, binop, intOp_mul, unop, shiftOp, strOp, isNil, fillElems, fillParts, elemZero, FQ, LeaveA, resA, resPV, resPVs, PV.fits, wkF, PV.leaf, Nat.reduceBEq, Nat.reduceLT, Nat.reduceLeDiff, Int.reduceLT, Int.reduceLE, Int.reduceToNat, s1, s2, s3, s4, s5, s6]
      exact ⟨rfl, ⟨at_set hfa I.ga, at_set hfs I.gs, at_set hfe I.ge, at_set hfr I.gr, o7, I.h1, I.h2, I.h3, I.h4, I.h5, I.h6, I.hp, I.hkp⟩, o7.more 4, .nil, .nil, .nil, .nil⟩
    clear s1 s2 s3 s4 s5 s6 I
    rintro m ⟨t, μ4, L4, df⟩ ⟨j, f1, f2, f3, f4, y1, y2, y3, y4, rfl, hj, s1, s2, s3, s4, s5, s6, s7, s8, I, gf, ow, g1, g2, g3, g4, h3⟩
    simp only at s1 s2 s3 s4 s5 s6 s7 s8 I gf ow h3
    subst h3
    by_cases hjk : j < k
    · have ga := I.ga
      simp only [wkB, wkC, kernP, rd, rds, reduceIte, Nat.reduceEqDiff, Nat.reduceAdd, binop, intOp_mul, unop, shiftOp, strOp, isNil, fillElems, fillParts, elemZero, FQ, LeaveA, resA, resPV, resPVs, PV.fits, wkF, PV.leaf, Nat.reduceBEq, Nat.reduceLT, Nat.reduceLeDiff, Int.reduceLT, Int.reduceLE, Int.reduceToNat, s3, s6, s7, s8, dec_t hjk, gf, ga]
      have q1 := g1.len
      have q2 := g2.len
      have q3 := g3.len
      have q4 := g4.len
      refine app_ow (i := 6) (xs := y1) (ys := [.agg (AC ns)]) (tk2 := .full) ow rfl (by (simp only [rd, upd_app, reduceIte, Nat.reduceEqDiff]); try rfl) (by (simp only [rd, upd_app, reduceIte, Nat.reduceEqDiff]); try rfl) (by simp only [List.length_cons, List.length_nil]; omega) ?_
      intro b1 ow1
      have I1 : MI ns zs tkn tkb μ L qa qs qe qr k μ4 (L4.mv f1 b1) t1 t2 t3 t4 t5 t6 tp x1 x2 x3 x4 x5 x6 xp kp := ⟨I.ga, I.gs, I.ge, I.gr, ow1.less (ts := [t1, t2, t3, t4, t5, t6]), I.h1, I.h2, I.h3, I.h4, I.h5, I.h6, I.hp, I.hkp⟩
      simp only [wkB, wkC, kernP, rd, rds, reduceIte, Nat.reduceEqDiff, Nat.reduceAdd, binop, intOp_mul, unop, shiftOp, strOp, isNil, fillElems, fillParts, elemZero, FQ, LeaveA, resA, resPV, resPVs, PV.fits, wkF, PV.leaf, Nat.reduceBEq, Nat.reduceLT, Nat.reduceLeDiff, Int.reduceLT, Int.reduceLE, Int.reduceToNat, s7, gf, spl]
      refine aw_draw (by decide) (fun _ _ _ h => h) ?_
      have hmin : (((ns.length : Nat) : Int) < ((j : Nat) : Int)) = False := by simp only [eq_iff_iff, iff_false]; omega
      have hle : (((j : Nat) : Int) ≤ ((ns.length : Nat) : Int)) = True := by simp only [eq_iff_iff, iff_true]; omega
      simp only [wkB, wkC, kernP, rd, rds, reduceIte, Nat.reduceEqDiff, Nat.reduceAdd, binop, intOp_mul, unop, shiftOp, strOp, isNil, fillElems, fillParts, elemZero, FQ, LeaveA, resA, resPV, resPVs, PV.fits, wkF, PV.leaf, Nat.reduceBEq, Nat.reduceLT, Nat.reduceLeDiff, Int.reduceLT, Int.reduceLE, Int.reduceToNat, s1, s7, s8, gf, spl, hlen, hmin, boundsOf, hiOf, hle, nn_k, maxOk, Option.isSome_none]
      have ow1' := ow1.set (o := .cells (FC bb (numAt ns k) (numAt ns 11) k (.tk b1) f2 f3 f4 (y1 ++ [.agg (AC ns)]) y2 y3 y4)) nqf
      refine app_ow (i := 7) (xs := y2) (ys := [.sl (cutTok tkn ns.length j false) 1 (List.take j (ints ns))]) (tk2 := .full) ow1' rfl (by (simp only [rd, upd_app, reduceIte, Nat.reduceEqDiff]); try rfl) (by (simp only [rd, upd_app, reduceIte, Nat.reduceEqDiff]); try rfl) (by simp only [List.length_cons, List.length_nil]; omega) ?_
      intro b2 ow2
      have ga := I.ga
      simp only [wkB, wkC, kernP, rd, rds, reduceIte, Nat.reduceEqDiff, Nat.reduceAdd, binop, intOp_mul, unop, shiftOp, strOp, isNil, fillElems, fillParts, elemZero, FQ, LeaveA, resA, resPV, resPVs, PV.fits, wkF, PV.leaf, Nat.reduceBEq, Nat.reduceLT, Nat.reduceLeDiff, Int.reduceLT, Int.reduceLE, Int.reduceToNat, s3, s7, s8, gf, spl, set_set, ga, hfa]
      have ow2' := ow2.set (o := .cells (FC bb (numAt ns k) (numAt ns 11) k (.tk b1) (.tk b2) f3 f4 (y1 ++ [.agg (AC ns)]) (y2 ++ [.sl (cutTok tkn ns.length j false) 1 (List.take j (ints ns))]) y3 y4)) nqf
      rw [set_set] at ow2'
      refine app_ow (i := 8) (xs := y3) (ys := [.agg (.int .i64 (j : Nat) :: AC ns)]) (tk2 := .full) ow2' rfl (by (simp only [rd, upd_app, reduceIte, Nat.reduceEqDiff]); try rfl) (by (simp only [rd, upd_app, reduceIte, Nat.reduceEqDiff]); try rfl) (by simp only [List.length_cons, List.length_nil]; omega) ?_
      intro b3 ow3
      simp only [wkB, wkC, kernP, rd, rds, reduceIte, Nat.reduceEqDiff, Nat.reduceAdd, binop, intOp_mul, unop, shiftOp, strOp, isNil, fillElems, fillParts, elemZero, FQ, LeaveA, resA, resPV, resPVs, PV.fits, wkF, PV.leaf, Nat.reduceBEq, Nat.reduceLT, Nat.reduceLeDiff, Int.reduceLT, Int.reduceLE, Int.reduceToNat, s1, s3, s7, s8, gf, spl, set_set]
      refine aw_drawV (W := fun x => x = qf) (by decide) (fun _ _ _ h => h) ?_
      simp only [wkB, wkV, wkC, kernP, rd, rds, reduceIte, Nat.reduceEqDiff, Nat.reduceAdd, binop, intOp_mul, unop, shiftOp, strOp, isNil, fillElems, fillParts, elemZero, FQ, LeaveA, resA, resPV, resPVs, PV.fits, wkF, PV.leaf, Nat.reduceBEq, Nat.reduceLT, Nat.reduceLeDiff, Int.reduceLT, Int.reduceLE, Int.reduceToNat, s1, s7, s8, set_set]
      have gf3 := at_self (μ := μ4) (p := qf) (o := .cells (FC bb (numAt ns k) (numAt ns 11) k (.tk b1) (.tk b2) (.tk b3) f4 (y1 ++ [.agg (AC ns)]) (y2 ++ [.sl (cutTok tkn ns.length j false) 1 (List.take j (ints ns))]) (y3 ++ [.agg (.int .i64 (j : Nat) :: AC ns)]) y4))
      refine num j _ _ _ _ ?_
      intro μ5 L5 k5
      have gf5 := k5.at gf3
      have ow5 := (ow3.set (o := .cells (FC bb (numAt ns k) (numAt ns 11) k (.tk b1) (.tk b2) (.tk b3) f4 (y1 ++ [.agg (AC ns)]) (y2 ++ [.sl (cutTok tkn ns.length j false) 1 (List.take j (ints ns))]) (y3 ++ [.agg (.int .i64 (j : Nat) :: AC ns)]) y4)) nqf)
      rw [set_set] at ow5
      have ow5 := ow5.call k5
      have ga5 := k5.at (at_set (o := .cells (FC bb (numAt ns k) (numAt ns 11) k (.tk b1) (.tk b2) (.tk b3) f4 (y1 ++ [.agg (AC ns)]) (y2 ++ [.sl (cutTok tkn ns.length j false) 1 (List.take j (ints ns))]) (y3 ++ [.agg (.int .i64 (j : Nat) :: AC ns)]) y4)) hfa I.ga)
      have gs5 := k5.at (at_set (o := .cells (FC bb (numAt ns k) (numAt ns 11) k (.tk b1) (.tk b2) (.tk b3) f4 (y1 ++ [.agg (AC ns)]) (y2 ++ [.sl (cutTok tkn ns.length j false) 1 (List.take j (ints ns))]) (y3 ++ [.agg (.int .i64 (j : Nat) :: AC ns)]) y4)) hfs I.gs)
      have ge5 := k5.at (at_set (o := .cells (FC bb (numAt ns k) (numAt ns 11) k (.tk b1) (.tk b2) (.tk b3) f4 (y1 ++ [.agg (AC ns)]) (y2 ++ [.sl (cutTok tkn ns.length j false) 1 (List.take j (ints ns))]) (y3 ++ [.agg (.int .i64 (j : Nat) :: AC ns)]) y4)) hfe I.ge)
      have gr5 := k5.at (at_set (o := .cells (FC bb (numAt ns k) (numAt ns 11) k (.tk b1) (.tk b2) (.tk b3) f4 (y1 ++ [.agg (AC ns)]) (y2 ++ [.sl (cutTok tkn ns.length j false) 1 (List.take j (ints ns))]) (y3 ++ [.agg (.int .i64 (j : Nat) :: AC ns)]) y4)) hfr I.gr)
      simp only [wkB, wkV, wkC, kernP, rd, rds, reduceIte, Nat.reduceEqDiff, Nat.reduceAdd, binop, intOp_mul, unop, shiftOp, strOp, isNil, fillElems, fillParts, elemZero, FQ, LeaveA, resA, resPV, resPVs, PV.fits, wkF, PV.leaf, Nat.reduceBEq, Nat.reduceLT, Nat.reduceLeDiff, Int.reduceLT, Int.reduceLE, Int.reduceToNat, k5.stay, gf5]
      refine app_ow (i := 9) (xs := y4) (ys := [.int .i64 (numAt ns j)]) (tk2 := .full) ow5 rfl (by (simp only [rd, upd_app, reduceIte, Nat.reduceEqDiff]); try rfl) (by (simp only [rd, upd_app, reduceIte, Nat.reduceEqDiff]); try rfl) (by simp only [List.length_cons, List.length_nil]; omega) ?_
      intro b4 ow6
      simp only [wkB, wkV, wkC, kernP, rd, rds, reduceIte, Nat.reduceEqDiff, Nat.reduceAdd, binop, intOp_mul, unop, shiftOp, strOp, isNil, fillElems, fillParts, elemZero, FQ, LeaveA, resA, resPV, resPVs, PV.fits, wkF, PV.leaf, Nat.reduceBEq, Nat.reduceLT, Nat.reduceLeDiff, Int.reduceLT, Int.reduceLE, Int.reduceToNat, s7, gf5, spl, s8, inc_k (show j < 1099511627776 by omega)]
      have ow7 := ow6.set (o := .cells (FC bb (numAt ns k) (numAt ns 11) k (.tk b1) (.tk b2) (.tk b3) (.tk b4) (y1 ++ [.agg (AC ns)]) (y2 ++ [.sl (cutTok tkn ns.length j false) 1 (List.take j (ints ns))]) (y3 ++ [.agg (.int .i64 (j : Nat) :: AC ns)]) (y4 ++ [.int .i64 (numAt ns j)]))) nqf
      refine ⟨_, by omega, j + 1, .tk b1, .tk b2, .tk b3, .tk b4, _, _, _, _, rfl, by omega, s1, s2, s3, s4, s5, s6, rfl, ?_, rfl, ow7, g1.snoc (v := vA ns) (abs_rep ns) (absV_ok hns), ?_, ?_, ?_⟩
      · exact ⟨at_set hfa ga5, at_set hfs gs5, at_set hfe ge5, at_set hfr gr5, ow7.less (ts := [t1, t2, t3, t4, t5, t6]), I.h1, I.h2, I.h3, I.h4, I.h5, I.h6, I.hp, I.hkp⟩
      · refine g2.snoc (v := ns.take j) ⟨_, ints (ns.take j), by simp only [PV.flat, List.map_take]; rfl, repL_ints _⟩ ⟨?_, fun x hx => hns x (List.mem_of_mem_take hx)⟩
        rw [List.length_take]; omega
      · exact g3.snoc (v := ((j : Int), vA ns)) ⟨[.int .i64 (j : Nat)], AC ns, rfl, rfl, abs_rep ns⟩ ⟨⟨by omega, by omega⟩, absV_ok hns⟩
      · exact g4.snoc (v := numAt ns j) rfl (numAt_i64 hns j)
    · have hjk' : j = k := by omega
      subst hjk'
      obtain ⟨vf, rf, sf⟩ := fact_rep (b := bb) (f1 := f1) (f2 := f2) (f3 := f3) (f4 := f4) (numAt_i64 hns j) (numAt_i64 hns 11) (p := (j : Int)) ⟨by omega, by omega⟩ (by omega) g1 g2 g3 g4
      have ge := I.ge
      have gs := I.gs
      simp only [wkB, wkC, kernP, rd, rds, reduceIte, Nat.reduceEqDiff, Nat.reduceAdd, binop, intOp_mul, unop, shiftOp, strOp, isNil, fillElems, fillParts, elemZero, FQ, LeaveA, resA, resPV, resPVs, PV.fits, wkF, PV.leaf, Nat.reduceBEq, Nat.reduceLT, Nat.reduceLeDiff, Int.reduceLT, Int.reduceLE, Int.reduceToNat, s5, s6, s7, s8, dec_f hjk, ge, gf]
      refine app_ll 2 (tk2 := .full) I.ow rfl I.h3 (e := .agg (FC bb (numAt ns j) (numAt ns 11) j f1 f2 f3 f4 y1 y2 y3 y4)) rf sf (by (simp only [rd, upd_app, reduceIte, Nat.reduceEqDiff]); try rfl) (by (simp only [rd, upd_app, reduceIte, Nat.reduceEqDiff]); try rfl) (by omega) ?_
      intro c3 X3 w3 l3
      clear rf gf
      simp only [wkB, wkC, kernP, rd, rds, reduceIte, Nat.reduceEqDiff, Nat.reduceAdd, binop, intOp_mul, unop, shiftOp, strOp, isNil, fillElems, fillParts, elemZero, FQ, LeaveA, resA, resPV, resPVs, PV.fits, wkF, PV.leaf, Nat.reduceBEq, Nat.reduceLT, Nat.reduceLeDiff, Int.reduceLT, Int.reduceLE, Int.reduceToNat, s5, ge, spl]
      have n1 := w3.set (o := .cells (EC ns zs tkn tkb t1 t2 (.tk c3) t4 t5 t6 x1 x2 X3 x4 x5 x6)) nqe
      have gs1 := at_set (o := .cells (EC ns zs tkn tkb t1 t2 (.tk c3) t4 t5 t6 x1 x2 X3 x4 x5 x6)) hse gs
      have ga1 := at_set (o := .cells (EC ns zs tkn tkb t1 t2 (.tk c3) t4 t5 t6 x1 x2 X3 x4 x5 x6)) hae I.ga
      have gr1 := at_set (o := .cells (EC ns zs tkn tkb t1 t2 (.tk c3) t4 t5 t6 x1 x2 X3 x4 x5 x6)) hre I.gr
      refine aw_drawV (W := fun x => x = qe) (by decide) (fun _ _ _ h => h) ?_
      simp only [wkB, wkV, wkC, kernP, rd, rds, reduceIte, Nat.reduceEqDiff, Nat.reduceAdd, binop, intOp_mul, unop, shiftOp, strOp, isNil, fillElems, fillParts, elemZero, FQ, LeaveA, resA, resPV, resPVs, PV.fits, wkF, PV.leaf, Nat.reduceBEq, Nat.reduceLT, Nat.reduceLeDiff, Int.reduceLT, Int.reduceLE, Int.reduceToNat, s1, s5, s6]
      refine num 12 _ _ _ _ ?_
      intro μ6 L6 k6
      have n2 := n1.call k6
      have gs2 := k6.at gs1
      have ga2 := k6.at ga1
      have gr2 := k6.at gr1
      have ge2 : μ6 qe = some (.cells (EC ns zs tkn tkb t1 t2 (.tk c3) t4 t5 t6 x1 x2 X3 x4 x5 x6)) := k6.at at_self
      clear gs1 ga1 gr1 n1
      simp only [wkB, wkV, wkC, kernP, rd, rds, reduceIte, Nat.reduceEqDiff, Nat.reduceAdd, binop, intOp_mul, unop, shiftOp, strOp, isNil, fillElems, fillParts, elemZero, FQ, LeaveA, resA, resPV, resPVs, PV.fits, wkF, PV.leaf, Nat.reduceBEq, Nat.reduceLT, Nat.reduceLeDiff, Int.reduceLT, Int.reduceLE, Int.reduceToNat, k6.stay]
      clear k6
      have ij : I64 (j : Int) := ⟨by omega, by omega⟩
      refine app_ll 3 (tk2 := .full) n2 rfl I.h4 (e := .agg [.int .i64 (j : Nat), .int .i64 (numAt ns 12), .int .i64 (j : Nat)]) (v3_rep _ _ _) ⟨ij, numAt_i64 hns 12, ij⟩ (by (simp only [rd, upd_app, reduceIte, Nat.reduceEqDiff]); try rfl) (by (simp only [rd, upd_app, reduceIte, Nat.reduceEqDiff]); try rfl) (by omega) ?_
      intro c4 X4 w4 l4
      simp only [wkB, wkV, wkC, kernP, rd, rds, reduceIte, Nat.reduceEqDiff, Nat.reduceAdd, binop, intOp_mul, unop, shiftOp, strOp, isNil, fillElems, fillParts, elemZero, FQ, LeaveA, resA, resPV, resPVs, PV.fits, wkF, PV.leaf, Nat.reduceBEq, Nat.reduceLT, Nat.reduceLeDiff, Int.reduceLT, Int.reduceLE, Int.reduceToNat, s5, ge2, spl]
      have n3 := w4.set (o := .cells (EC ns zs tkn tkb t1 t2 (.tk c3) (.tk c4) t5 t6 x1 x2 X3 X4 x5 x6)) nqe
      have gs3 := at_set (o := .cells (EC ns zs tkn tkb t1 t2 (.tk c3) (.tk c4) t5 t6 x1 x2 X3 X4 x5 x6)) hse gs2
      have ga3 := at_set (o := .cells (EC ns zs tkn tkb t1 t2 (.tk c3) (.tk c4) t5 t6 x1 x2 X3 X4 x5 x6)) hae ga2
      have gr3 := at_set (o := .cells (EC ns zs tkn tkb t1 t2 (.tk c3) (.tk c4) t5 t6 x1 x2 X3 X4 x5 x6)) hre gr2
      clear gs2 ga2 gr2 n2 w4 ge2
      refine aw_drawV (W := fun x => x = qe) (by decide) (fun _ _ _ h => h) ?_
      simp only [wkB, wkV, wkC, kernP, rd, rds, reduceIte, Nat.reduceEqDiff, Nat.reduceAdd, binop, intOp_mul, unop, shiftOp, strOp, isNil, fillElems, fillParts, elemZero, FQ, LeaveA, resA, resPV, resPVs, PV.fits, wkF, PV.leaf, Nat.reduceBEq, Nat.reduceLT, Nat.reduceLeDiff, Int.reduceLT, Int.reduceLE, Int.reduceToNat, s1, s5, s6]
      refine num 13 _ _ _ _ ?_
      intro μ7 L7 k7
      have n4' := n3.call k7
      have gs4 := k7.at gs3
      have ga4 := k7.at ga3
      have gr4 := k7.at gr3
      have ge4 : μ7 qe = some (.cells (EC ns zs tkn tkb t1 t2 (.tk c3) (.tk c4) t5 t6 x1 x2 X3 X4 x5 x6)) := k7.at at_self
      clear gs3 ga3 gr3 n3
      simp only [wkB, wkV, wkC, kernP, rd, rds, reduceIte, Nat.reduceEqDiff, Nat.reduceAdd, binop, intOp_mul, unop, shiftOp, strOp, isNil, fillElems, fillParts, elemZero, FQ, LeaveA, resA, resPV, resPVs, PV.fits, wkF, PV.leaf, Nat.reduceBEq, Nat.reduceLT, Nat.reduceLeDiff, Int.reduceLT, Int.reduceLE, Int.reduceToNat, k7.stay]
      clear k7
      refine app_ll 4 (tk2 := .full) n4' rfl I.h5 (e := .agg [.int .i64 (j : Nat), .int .i64 (numAt ns 13), .int .i64 1]) (v3_rep _ _ _) ⟨ij, numAt_i64 hns 13, ⟨by decide, by decide⟩⟩ (by (simp only [rd, upd_app, reduceIte, Nat.reduceEqDiff]); try rfl) (by (simp only [rd, upd_app, reduceIte, Nat.reduceEqDiff]); try rfl) (by omega) ?_
      intro c5 X5 w5 l5
      simp only [wkB, wkV, wkC, kernP, rd, rds, reduceIte, Nat.reduceEqDiff, Nat.reduceAdd, binop, intOp_mul, unop, shiftOp, strOp, isNil, fillElems, fillParts, elemZero, FQ, LeaveA, resA, resPV, resPVs, PV.fits, wkF, PV.leaf, Nat.reduceBEq, Nat.reduceLT, Nat.reduceLeDiff, Int.reduceLT, Int.reduceLE, Int.reduceToNat, s5, ge4, spl]
      have n5 := w5.set (o := .cells (EC ns zs tkn tkb t1 t2 (.tk c3) (.tk c4) (.tk c5) t6 x1 x2 X3 X4 X5 x6)) nqe
      have gs5 := at_set (o := .cells (EC ns zs tkn tkb t1 t2 (.tk c3) (.tk c4) (.tk c5) t6 x1 x2 X3 X4 X5 x6)) hse gs4
      have ga5 := at_set (o := .cells (EC ns zs tkn tkb t1 t2 (.tk c3) (.tk c4) (.tk c5) t6 x1 x2 X3 X4 X5 x6)) hae ga4
      have gr5 := at_set (o := .cells (EC ns zs tkn tkb t1 t2 (.tk c3) (.tk c4) (.tk c5) t6 x1 x2 X3 X4 X5 x6)) hre gr4
      clear gs4 ga4 gr4 n4' w5 ge4
      refine aw_drawV (W := fun x => x = qe) (by decide) (fun _ _ _ h => h) ?_
      simp only [wkB, wkV, wkC, kernP, rd, rds, reduceIte, Nat.reduceEqDiff, Nat.reduceAdd, binop, intOp_mul, unop, shiftOp, strOp, isNil, fillElems, fillParts, elemZero, FQ, LeaveA, resA, resPV, resPVs, PV.fits, wkF, PV.leaf, Nat.reduceBEq, Nat.reduceLT, Nat.reduceLeDiff, Int.reduceLT, Int.reduceLE, Int.reduceToNat, s1, s5, s6]
      refine num 14 _ _ _ _ ?_
      intro μ8 L8 k8
      have n6 := n5.call k8
      have gs6 := k8.at gs5
      have ga6 := k8.at ga5
      have gr6 := k8.at gr5
      have ge6 : μ8 qe = some (.cells (EC ns zs tkn tkb t1 t2 (.tk c3) (.tk c4) (.tk c5) t6 x1 x2 X3 X4 X5 x6)) := k8.at at_self
      clear gs5 ga5 gr5 n5
      simp only [wkB, wkV, wkC, kernP, rd, rds, reduceIte, Nat.reduceEqDiff, Nat.reduceAdd, binop, intOp_mul, unop, shiftOp, strOp, isNil, fillElems, fillParts, elemZero, FQ, LeaveA, resA, resPV, resPVs, PV.fits, wkF, PV.leaf, Nat.reduceBEq, Nat.reduceLT, Nat.reduceLeDiff, Int.reduceLT, Int.reduceLE, Int.reduceToNat, k8.stay]
      clear k8
      have rn : Rep .int (PV.int .i64 (numAt ns 14)).flat (numAt ns 14) := rfl
      refine app_ll (T := .int) (P := I64) 5 (tk2 := .full) n6 rfl I.h6 (e := .int .i64 (numAt ns 14)) rn (numAt_i64 hns 14) (by (simp only [rd, upd_app, reduceIte, Nat.reduceEqDiff]); try rfl) (by (simp only [rd, upd_app, reduceIte, Nat.reduceEqDiff]); try rfl) (by omega) ?_
      intro c6 X6 w6 l6
      simp only [wkB, wkV, wkC, kernP, rd, rds, reduceIte, Nat.reduceEqDiff, Nat.reduceAdd, binop, intOp_mul, unop, shiftOp, strOp, isNil, fillElems, fillParts, elemZero, FQ, LeaveA, resA, resPV, resPVs, PV.fits, wkF, PV.leaf, Nat.reduceBEq, Nat.reduceLT, Nat.reduceLeDiff, Int.reduceLT, Int.reduceLE, Int.reduceToNat, s5, s4, ge6, gs6, spl, hse]
      have n7 := w6.set (o := .cells (EC ns zs tkn tkb t1 t2 (.tk c3) (.tk c4) (.tk c5) (.tk c6) x1 x2 X3 X4 X5 X6)) nqe
      have gs7 := at_set (o := .cells (EC ns zs tkn tkb t1 t2 (.tk c3) (.tk c4) (.tk c5) (.tk c6) x1 x2 X3 X4 X5 X6)) hse gs6
      have ga7 := at_set (o := .cells (EC ns zs tkn tkb t1 t2 (.tk c3) (.tk c4) (.tk c5) (.tk c6) x1 x2 X3 X4 X5 X6)) hae ga6
      have gr7 := at_set (o := .cells (EC ns zs tkn tkb t1 t2 (.tk c3) (.tk c4) (.tk c5) (.tk c6) x1 x2 X3 X4 X5 X6)) hre gr6
      clear gs6 ga6 gr6 n6 w6 ge6
      obtain ⟨vs, rs, os⟩ := sum_rep (tp := tp) hns I.hp I.hkp
      refine app_ll 0 (tk2 := .full) n7 rfl I.h1 (e := .agg (SC ns tp xp)) rs os (by (simp only [rd, upd_app, reduceIte, Nat.reduceEqDiff]); try rfl) (by (simp only [rd, upd_app, reduceIte, Nat.reduceEqDiff]); try rfl) (by omega) ?_
      intro c1 X1 w1 l1
      simp only [wkB, wkV, wkC, kernP, rd, rds, reduceIte, Nat.reduceEqDiff, Nat.reduceAdd, binop, intOp_mul, unop, shiftOp, strOp, isNil, fillElems, fillParts, elemZero, FQ, LeaveA, resA, resPV, resPVs, PV.fits, wkF, PV.leaf, Nat.reduceBEq, Nat.reduceLT, Nat.reduceLeDiff, Int.reduceLT, Int.reduceLE, Int.reduceToNat, s5, spl, set_set]
      have n8 := w1.set (o := .cells (EC ns zs tkn tkb (.tk c1) t2 (.tk c3) (.tk c4) (.tk c5) (.tk c6) X1 x2 X3 X4 X5 X6)) nqe
      rw [set_set] at n8
      have gs8 : (Mem.set μ8 qe (.cells (EC ns zs tkn tkb (.tk c1) t2 (.tk c3) (.tk c4) (.tk c5) (.tk c6) X1 x2 X3 X4 X5 X6))) qs = _ := at_set hse (by have := gs7; simp only [Mem.set] at this; rw [if_neg hse] at this; exact this)
      have ga8 : (Mem.set μ8 qe (.cells (EC ns zs tkn tkb (.tk c1) t2 (.tk c3) (.tk c4) (.tk c5) (.tk c6) X1 x2 X3 X4 X5 X6))) qa = _ := at_set hae (by have := ga7; simp only [Mem.set] at this; rw [if_neg hae] at this; exact this)
      have gr8 : (Mem.set μ8 qe (.cells (EC ns zs tkn tkb (.tk c1) t2 (.tk c3) (.tk c4) (.tk c5) (.tk c6) X1 x2 X3 X4 X5 X6))) qr = _ := at_set hre (by have := gr7; simp only [Mem.set] at this; rw [if_neg hre] at this; exact this)
      clear gs7 ga7 gr7 n7 w1
      refine aw_drawV (W := fun x => x = qe) (by decide) (fun _ _ _ h => h) ?_
      simp only [wkB, wkV, wkC, kernP, rd, rds, reduceIte, Nat.reduceEqDiff, Nat.reduceAdd, binop, intOp_mul, unop, shiftOp, strOp, isNil, fillElems, fillParts, elemZero, FQ, LeaveA, resA, resPV, resPVs, PV.fits, wkF, PV.leaf, Nat.reduceBEq, Nat.reduceLT, Nat.reduceLeDiff, Int.reduceLT, Int.reduceLE, Int.reduceToNat, s1, s5, s6]
      refine num j _ _ _ _ ?_
      intro μ9 L9 k9
      have n9 := n8.call k9
      have gs9 := k9.at gs8
      have ga9 := k9.at ga8
      have gr9 := k9.at gr8
      have ge9 : μ9 qe = some (.cells (EC ns zs tkn tkb (.tk c1) t2 (.tk c3) (.tk c4) (.tk c5) (.tk c6) X1 x2 X3 X4 X5 X6)) := k9.at at_self
      clear gs8 ga8 gr8 n8
      have eu8 : IntKind.wrap .u8 ((j : Nat) : Int) = ((j : Nat) : Int) := IntWalk.u8_in _ (by omega)
      simp only [wkB, wkV, wkC, kernP, rd, rds, reduceIte, Nat.reduceEqDiff, Nat.reduceAdd, binop, intOp_mul, unop, shiftOp, strOp, isNil, fillElems, fillParts, elemZero, FQ, LeaveA, resA, resPV, resPVs, PV.fits, wkF, PV.leaf, Nat.reduceBEq, Nat.reduceLT, Nat.reduceLeDiff, Int.reduceLT, Int.reduceLE, Int.reduceToNat, k9.stay, eu8]
      clear k9
      refine rule_k (by omega) (wrap_u8_range _) ?_
      intro ws μ10 L10 hws hw64 k10
      obtain ⟨vr, hvr⟩ := nums_of 9 ws hws
      have hrr : Rep (.nums 9) (ints ws) vr := by rw [← hvr]; exact nums_rep 9 vr
      have hor : OkV (.nums 9) vr := okNums 9 vr (by rw [hvr]; exact hw64)
      have n10 := n9.call k10
      have gs10 := k10.at gs9
      have ga10 := k10.at ga9
      have gr10 := k10.at gr9
      have ge10 := k10.at ge9
      clear gs9 ga9 gr9 n9 ge9
      have hil : (ints ws).length = 10 := by simp [hws]
      have hia : (ints ws).all PV.leaf = true := by
        rw [List.all_eq_true]
        intro x hx
        obtain ⟨w, _, rfl⟩ := List.mem_map.1 hx
        rfl
      simp only [wkB, wkV, wkC, kernP, rd, rds, reduceIte, Nat.reduceEqDiff, Nat.reduceAdd, binop, intOp_mul, unop, shiftOp, strOp, isNil, fillElems, fillParts, elemZero, FQ, LeaveA, resA, resPV, resPVs, PV.fits, wkF, PV.leaf, Nat.reduceBEq, Nat.reduceLT, Nat.reduceLeDiff, Int.reduceLT, Int.reduceLE, Int.reduceToNat, k10.stay, hil, hia]
      refine app_ll (T := .nums 9) (P := OkV (.nums 9)) 1 (tk2 := .full) n10 rfl I.h2 (e := .agg (ints ws)) hrr hor (by (simp only [rd, upd_app, reduceIte, Nat.reduceEqDiff]); try rfl) (by (simp only [rd, upd_app, reduceIte, Nat.reduceEqDiff]); try rfl) (by omega) ?_
      intro c2 X2 w2 l2
      simp only [wkB, wkV, wkC, kernP, rd, rds, reduceIte, Nat.reduceEqDiff, Nat.reduceAdd, binop, intOp_mul, unop, shiftOp, strOp, isNil, fillElems, fillParts, elemZero, FQ, LeaveA, resA, resPV, resPVs, PV.fits, wkF, PV.leaf, Nat.reduceBEq, Nat.reduceLT, Nat.reduceLeDiff, Int.reduceLT, Int.reduceLE, Int.reduceToNat, s5, ge10, spl]
      have n11 := w2.set (o := .cells (EC ns zs tkn tkb (.tk c1) (.tk c2) (.tk c3) (.tk c4) (.tk c5) (.tk c6) X1 X2 X3 X4 X5 X6)) nqe
      have gs11 := at_set (o := .cells (EC ns zs tkn tkb (.tk c1) (.tk c2) (.tk c3) (.tk c4) (.tk c5) (.tk c6) X1 X2 X3 X4 X5 X6)) hse gs10
      have ga11 := at_set (o := .cells (EC ns zs tkn tkb (.tk c1) (.tk c2) (.tk c3) (.tk c4) (.tk c5) (.tk c6) X1 X2 X3 X4 X5 X6)) hae ga10
      have gr11 := at_set (o := .cells (EC ns zs tkn tkb (.tk c1) (.tk c2) (.tk c3) (.tk c4) (.tk c5) (.tk c6) X1 X2 X3 X4 X5 X6)) hre gr10
      clear gs10 ga10 gr10 n10 w2 ge10
      have hX5 := l5.len
      refine app_tok (xs := []) (ys := X5) (tk := .full) (tk2 := .tk c5) (by (simp only [rd, upd_app, reduceIte, Nat.reduceEqDiff]); try rfl) (by (simp only [rd, upd_app, reduceIte, Nat.reduceEqDiff]); try rfl) (.inl rfl) (by simp only [List.length_nil]; omega) ?_
      intro cp hcp
      have n12 := n11.app0 hcp
      have gs12 : Mem.set μ10 qe (.cells (EC ns zs tkn tkb (.tk c1) (.tk c2) (.tk c3) (.tk c4) (.tk c5) (.tk c6) X1 X2 X3 X4 X5 X6)) qs = some (.cells (SC ns tp xp)) := gs11
      have gs13 : μ10 qs = some (.cells (SC ns tp xp)) := by simp only [Mem.set] at gs12; rw [if_neg hse] at gs12; exact gs12
      simp only [wkB, wkV, wkC, kernP, rd, rds, reduceIte, Nat.reduceEqDiff, Nat.reduceAdd, binop, intOp_mul, unop, shiftOp, strOp, isNil, fillElems, fillParts, elemZero, FQ, LeaveA, resA, resPV, resPVs, PV.fits, wkF, PV.leaf, Nat.reduceBEq, Nat.reduceLT, Nat.reduceLeDiff, Int.reduceLT, Int.reduceLE, Int.reduceToNat, s4, s6, hse, gs13, spl, inc_k (show j < 1099511627776 by omega)]
      have n13 := n12.set (o := .cells (SC ns (.tk cp) X5)) nqs
      exact ⟨_, by omega, j + 1, .tk c1, .tk c2, .tk c3, .tk c4, .tk c5, .tk c6, .tk cp, X1, X2, X3, X4, X5, X6, X5, j + 1, rfl, by omega, s1, s2, s3, s5, rfl, ⟨at_set has ga11, at_self, at_set (fun e => hse e.symm) at_self, at_set hrs gr11, n13, l1, l2, l3, l4, l5, l6, l5, by omega⟩⟩
  · have hkn : k = n := by omega
    obtain ⟨v, v1, v2, v3, v4⟩ := entry_rep (tkn := tkn) (tkb := tkb) (t1 := t1) (t2 := t2) (t3 := t3) (t4 := t4) (t5 := t5) (t6 := t6) hns hzs hln hlz (by omega) I.h1 I.h2 I.h3 I.h4 I.h5 I.h6
    have ge := I.ge
    have gr := I.gr
    simp only [wkB, wkC, kernP, rd, rds, reduceIte, Nat.reduceEqDiff, Nat.reduceAdd, binop, intOp_mul, unop, shiftOp, strOp, isNil, fillElems, fillParts, elemZero, FQ, LeaveA, resA, resPV, resPVs, PV.fits, wkF, PV.leaf, Nat.reduceBEq, Nat.reduceLT, Nat.reduceLeDiff, Int.reduceLT, Int.reduceLE, Int.reduceToNat, s1, s2, s5, s6, hlen, intOp_rem n4, hrem, dec_f hlt, ge, gr, spl, hag]
    exact ⟨_, rfl, hK _ v _ _ v1 v2 v3 v4 (I.ow.kp.set nqr)⟩

end Go.Bm
