/- Walks: WorkersRecords answers true. -/
import Derived.Test.YtjgoicmdcegmnaaGreatWkF

set_option linter.unusedVariables false
set_option linter.unusedSimpArgs false

/- WorkersRecords answers true. -/
namespace Go.Bm
open Go Go.Proofs

theorem Keeps.full {μ μ' : Mem} {L L' : Lv} {tk : Tok} (k : Keeps μ L μ' L' tk) : Keeps μ L μ' L' .full := ⟨k.1, .inl rfl, fun c hc => ⟨(k.2.2 c hc).1, by simp⟩⟩

theorem Keeps.app0 {μ μ1 : Mem} {L L1 : Lv} {b : Nat} (h : Keeps μ L μ1 L1 .full) (hb : Fresh μ1 L1 b) : Keeps μ L μ1 (L1.mv .full b) .full := (h.app hb).full

set_option maxHeartbeats 4000000 in
theorem workers_ok {tn1 tb1 tn2 tb2 : Tok} {nx zx ny zy : List Int} {cut : Int} (hnx : ∀ n ∈ nx, I64 n) (hzx : Byt zx) (hny : ∀ n ∈ ny, I64 n) (hzy : Byt zy) (hcut : 0 ≤ cut ∧ cut ≤ 65535) :
    Gives0 3 [.agg [.sl tn1 1 (ints nx), .sl tb1 1 (byts zx)], .agg [.sl tn2 1 (ints ny), .sl tb2 1 (byts zy)], .int .u16 cut] (.bool true) := by
  intro μ L K KP hK
  refine acall_of_aw mix fn3 (by simp) ?_
  unfold ac3
  simp only [wkB, wkC, kernP, rd, rds, reduceIte, Nat.reduceEqDiff, Nat.reduceAdd, binop, intOp_mul, unop, shiftOp, strOp, isNil, fillElems, fillParts, elemZero, FQ, LeaveA, resA, resPV, resPVs, PV.fits, wkF, PV.leaf, Nat.reduceBEq, Nat.reduceLT, Nat.reduceLeDiff, Int.reduceLT, Int.reduceLE, Int.reduceToNat]
  refine examples_ok _ _ _ _ ?_
  intro μ1 L1 k1
  have e1 : (ints nx).length = nx.length := by simp
  have e2 : (ints ny).length = ny.length := by simp
  have e3 : (byts zx).length = zx.length := by simp
  have e4 : (byts zy).length = zy.length := by simp
  have gT : ∀ {n m : Nat}, m < n → decide (((n : Nat) : Int) > (m : Int)) = true := fun h => by rw [decide_eq_true_eq]; omega
  have gF : ∀ {n m : Nat}, ¬ m < n → decide (((n : Nat) : Int) > (m : Int)) = false := fun h => by rw [decide_eq_false_iff_not]; omega
  have g20 : ∀ n : Nat, decide (((n : Nat) : Int) > 20) = decide (20 < n) := fun n => by
    by_cases h : 20 < n
    · rw [decide_eq_true (by omega), decide_eq_true h]
    · rw [decide_eq_false (by omega), decide_eq_false h]
  have g40 : ∀ n : Nat, decide (((n : Nat) : Int) > 40) = decide (40 < n) := fun n => by
    by_cases h : 40 < n
    · rw [decide_eq_true (by omega), decide_eq_true h]
    · rw [decide_eq_false (by omega), decide_eq_false h]
  by_cases c1 : 20 < nx.length
  · simp only [wkB, wkC, kernP, rd, rds, reduceIte, Nat.reduceEqDiff, Nat.reduceAdd, binop, intOp_mul, unop, shiftOp, strOp, isNil, fillElems, fillParts, elemZero, FQ, LeaveA, resA, resPV, resPVs, PV.fits, wkF, PV.leaf, Nat.reduceBEq, Nat.reduceLT, Nat.reduceLeDiff, Int.reduceLT, Int.reduceLE, Int.reduceToNat, e1, g20, decide_eq_true c1]
    exact ⟨_, rfl, hK _ _ k1⟩
  by_cases c2 : 20 < ny.length
  · simp only [wkB, wkC, kernP, rd, rds, reduceIte, Nat.reduceEqDiff, Nat.reduceAdd, binop, intOp_mul, unop, shiftOp, strOp, isNil, fillElems, fillParts, elemZero, FQ, LeaveA, resA, resPV, resPVs, PV.fits, wkF, PV.leaf, Nat.reduceBEq, Nat.reduceLT, Nat.reduceLeDiff, Int.reduceLT, Int.reduceLE, Int.reduceToNat, e1, e2, g20, decide_eq_false c1, decide_eq_true c2]
    exact ⟨_, rfl, hK _ _ k1⟩
  by_cases c3 : 40 < zx.length
  · simp only [wkB, wkC, kernP, rd, rds, reduceIte, Nat.reduceEqDiff, Nat.reduceAdd, binop, intOp_mul, unop, shiftOp, strOp, isNil, fillElems, fillParts, elemZero, FQ, LeaveA, resA, resPV, resPVs, PV.fits, wkF, PV.leaf, Nat.reduceBEq, Nat.reduceLT, Nat.reduceLeDiff, Int.reduceLT, Int.reduceLE, Int.reduceToNat, e1, e2, e3, g20, g40, decide_eq_false c1, decide_eq_false c2, decide_eq_true c3]
    exact ⟨_, rfl, hK _ _ k1⟩
  by_cases c4 : 40 < zy.length
  · simp only [wkB, wkC, kernP, rd, rds, reduceIte, Nat.reduceEqDiff, Nat.reduceAdd, binop, intOp_mul, unop, shiftOp, strOp, isNil, fillElems, fillParts, elemZero, FQ, LeaveA, resA, resPV, resPVs, PV.fits, wkF, PV.leaf, Nat.reduceBEq, Nat.reduceLT, Nat.reduceLeDiff, Int.reduceLT, Int.reduceLE, Int.reduceToNat, e1, e2, e3, e4, g20, g40, decide_eq_false c1, decide_eq_false c2, decide_eq_false c3, decide_eq_true c4]
    exact ⟨_, rfl, hK _ _ k1⟩
  simp only [wkB, wkC, kernP, rd, rds, reduceIte, Nat.reduceEqDiff, Nat.reduceAdd, binop, intOp_mul, unop, shiftOp, strOp, isNil, fillElems, fillParts, elemZero, FQ, LeaveA, resA, resPV, resPVs, PV.fits, wkF, PV.leaf, Nat.reduceBEq, Nat.reduceLT, Nat.reduceLeDiff, Int.reduceLT, Int.reduceLE, Int.reduceToNat, e1, e2, e3, e4, g20, g40, decide_eq_false c1, decide_eq_false c2, decide_eq_false c3, decide_eq_false c4]
  refine made_ok hnx hzx (by omega) (by omega) ?_
  intro ca va μ2 L2 ra oa la la2 k2
  have hca := ra.length
  have hsz : Ty.size TEntry = 22 := rfl
  rw [hsz] at hca
  have hla : ca.all PV.leaf = true := List.all_eq_true.2 ra.leaves
  have hta : List.take 22 ca = ca := List.take_of_length_le (by omega)
  simp only [wkB, wkC, kernP, rd, rds, reduceIte, Nat.reduceEqDiff, Nat.reduceAdd, binop, intOp_mul, unop, shiftOp, strOp, isNil, fillElems, fillParts, elemZero, FQ, LeaveA, resA, resPV, resPVs, PV.fits, wkF, PV.leaf, Nat.reduceBEq, Nat.reduceLT, Nat.reduceLeDiff, Int.reduceLT, Int.reduceLE, Int.reduceToNat, hca, hla, spl, set_set]
  intro qa hqa
  have K1 := (k1.call k2).full
  have K2 := K1.set (o := .cells ca) (K1.fresh hqa).1
  refine made_ok hny hzy (by omega) (by omega) ?_
  intro cb vb μ3 L3 rb ob lb lb2 k3
  have hcb := rb.length
  rw [hsz] at hcb
  have hlb : cb.all PV.leaf = true := List.all_eq_true.2 rb.leaves
  have htb : List.take 22 cb = cb := List.take_of_length_le (by omega)
  have ga3 := k3.at (at_self (μ := μ2) (p := qa) (o := .cells ca))
  have K3 := K2.call k3
  simp only [wkB, wkC, kernP, rd, rds, reduceIte, Nat.reduceEqDiff, Nat.reduceAdd, binop, intOp_mul, unop, shiftOp, strOp, isNil, fillElems, fillParts, elemZero, FQ, LeaveA, resA, resPV, resPVs, PV.fits, wkF, PV.leaf, Nat.reduceBEq, Nat.reduceLT, Nat.reduceLeDiff, Int.reduceLT, Int.reduceLE, Int.reduceToNat, hcb, hlb, spl, set_set]
  intro qb hqb
  have hab : ¬ qa = qb := fun e => by rw [e, hqb.1] at ga3; cases ga3
  have K4 := K3.set (o := .cells cb) (K3.fresh hqb).1
  simp only [wkB, wkC, kernP, rd, rds, reduceIte, Nat.reduceEqDiff, Nat.reduceAdd, binop, intOp_mul, unop, shiftOp, strOp, isNil, fillElems, fillParts, elemZero, FQ, LeaveA, resA, resPV, resPVs, PV.fits, wkF, PV.leaf, Nat.reduceBEq, Nat.reduceLT, Nat.reduceLeDiff, Int.reduceLT, Int.reduceLE, Int.reduceToNat, hab, ga3, hca, hta]
  refine encV_ok ra oa (by unfold wmax; omega) ?_
  intro tk1 μ4 L4 k4
  have ga4 := k4.at (at_set (o := .cells cb) hab ga3)
  have gb4 := k4.at (at_self (μ := μ3) (p := qb) (o := .cells cb))
  have K5 := K4.call k4
  simp only [wkB, wkC, kernP, rd, rds, reduceIte, Nat.reduceEqDiff, Nat.reduceAdd, binop, intOp_mul, unop, shiftOp, strOp, isNil, fillElems, fillParts, elemZero, FQ, LeaveA, resA, resPV, resPVs, PV.fits, wkF, PV.leaf, Nat.reduceBEq, Nat.reduceLT, Nat.reduceLeDiff, Int.reduceLT, Int.reduceLE, Int.reduceToNat, gb4, hcb, htb]
  refine encV_ok rb ob (by unfold wmax; omega) ?_
  intro tk2 μ5 L5 k5
  have ga5 := k5.at ga4
  have gb5 := k5.at gb4
  have K6 := K5.call k5
  obtain ⟨wa, hwa⟩ : ∃ wa, wa = wordsV TEntry va := ⟨_, rfl⟩
  obtain ⟨wb, hwb⟩ : ∃ wb, wb = wordsV TEntry vb := ⟨_, rfl⟩
  have lenA : (encB wa).length = 8 * (wa.length + 2) := encB_len wa
  have lenB : (encB wb).length = 8 * (wb.length + 2) := encB_len wb
  rw [← hwa] at la
  rw [← hwb] at lb
  rw [← hwa, ← hwb]
  clear k1 k2 k3 k4 k5 K1 K2 K3 K4 K5 ga3 ga4 gb4
  simp only [wkB, wkC, kernP, rd, rds, reduceIte, Nat.reduceEqDiff, Nat.reduceAdd, binop, intOp_mul, unop, shiftOp, strOp, isNil, fillElems, fillParts, elemZero, FQ, LeaveA, resA, resPV, resPVs, PV.fits, wkF, PV.leaf, Nat.reduceBEq, Nat.reduceLT, Nat.reduceLeDiff, Int.reduceLT, Int.reduceLE, Int.reduceToNat]
  refine app_tok (xs := []) (ys := encB wa) (tk := .full) (tk2 := tk1) (by (simp only [rd, upd_app, reduceIte, Nat.reduceEqDiff]); try rfl) (by (simp only [rd, upd_app, reduceIte, Nat.reduceEqDiff]); try rfl) (.inl rfl) (by rw [lenA]; simp; omega) ?_
  intro n1 hn1
  have K7 := K6.app0 hn1
  simp only [wkB, wkC, kernP, rd, rds, reduceIte, Nat.reduceEqDiff, Nat.reduceAdd, binop, intOp_mul, unop, shiftOp, strOp, isNil, fillElems, fillParts, elemZero, FQ, LeaveA, resA, resPV, resPVs, PV.fits, wkF, PV.leaf, Nat.reduceBEq, Nat.reduceLT, Nat.reduceLeDiff, Int.reduceLT, Int.reduceLE, Int.reduceToNat]
  refine app_tok (xs := encB wa) (ys := encB wb) (tk := .tk n1) (tk2 := tk2) (by (simp only [rd, upd_app, reduceIte, Nat.reduceEqDiff]); try rfl) (by (simp only [rd, upd_app, reduceIte, Nat.reduceEqDiff]); try rfl) (.inr ⟨n1, rfl, .inl rfl⟩) (by rw [lenA, lenB]; omega) ?_
  intro n2 hn2
  have K8 : Keeps μ L μ5 ((L5.mv .full n1).mv (.tk n1) n2) .full := by
    refine ⟨K6.1, .inl rfl, fun c hc => ⟨.inr ⟨.inr ⟨(K6.2.2 c hc).1, by simp⟩, fun e => ?_⟩, by simp⟩⟩
    cases e
    exact hn1.2 (K6.2.2 _ hc).1
  simp only [wkB, wkC, kernP, rd, rds, reduceIte, Nat.reduceEqDiff, Nat.reduceAdd, binop, intOp_mul, unop, shiftOp, strOp, isNil, fillElems, fillParts, elemZero, FQ, LeaveA, resA, resPV, resPVs, PV.fits, wkF, PV.leaf, Nat.reduceBEq, Nat.reduceLT, Nat.reduceLeDiff, Int.reduceLT, Int.reduceLE, Int.reduceToNat]
  have chain2 : Chain (encB wa ++ encB wb) 0 [(wa, va), (wb, vb)] := by
    refine ⟨Nat.zero_le _, ?_, ?_⟩
    · rw [List.drop_zero, hwa]; exact recAt_enc oa (by rw [← hwa]; unfold wmax; omega)
    · have e : 0 + (16 + 8 * wa.length) = (encB wa).length := by rw [lenA]; omega
      rw [e]
      refine ⟨by rw [List.length_append]; omega, ?_, ?_⟩
      · rw [List.drop_left]
        have := recAt_enc (rest := []) ob (by rw [← hwb]; unfold wmax; omega)
        rw [List.append_nil, ← hwb] at this
        exact this
      · have e2 : (encB wa).length + (16 + 8 * wb.length) = (encB wa ++ encB wb).length := by rw [List.length_append, lenB]; omega
        rw [e2]
        refine ⟨Nat.le_refl _, ?_⟩
        rw [List.drop_length]
        exact recEnd_nil
  have end2 : endOf 0 [(wa, va), (wb, vb)] = (encB wa ++ encB wb).length := by
    show 0 + (16 + 8 * wa.length) + (16 + 8 * wb.length) = _
    rw [List.length_append, lenA, lenB]; omega
  refine recovered_ok (by rw [List.length_append, lenA, lenB]; omega) (by simp) chain2 ?_
  intro tr es μ6 L6 re k6
  rw [end2, List.take_length]
  have ga6 := k6.at ga5
  have gb6 := k6.at gb5
  have K9 := (K8.call k6).full
  clear K6 K7 K8 k6 ga5 gb5
  simp only [wkB, wkC, kernP, rd, rds, reduceIte, Nat.reduceEqDiff, Nat.reduceAdd, binop, intOp_mul, unop, shiftOp, strOp, isNil, fillElems, fillParts, elemZero, FQ, LeaveA, resA, resPV, resPVs, PV.fits, wkF, PV.leaf, Nat.reduceBEq, Nat.reduceLT, Nat.reduceLeDiff, Int.reduceLT, Int.reduceLE, Int.reduceToNat]
  intro q13 hq13
  have q13a : ¬ qa = q13 := fun e => by rw [e, hq13.1] at ga6; cases ga6
  have q13b : ¬ qb = q13 := fun e => by rw [e, hq13.1] at gb6; cases gb6
  have R := (AObj.cells [PV.sl tr 22 es, PV.sl Tok.full 1 (encB wa ++ encB wb)])
  have K10 := K9.set (o := .cells [.sl tr 22 es, .sl .full 1 (encB wa ++ encB wb)]) (K9.fresh hq13).1
  have ewc : IntKind.wrap .i64 cut = cut := IntWalk.i64_in _ (by omega)
  have nzB : (((encB wb).length : Nat) : Int) ≠ 0 := by rw [lenB]; omega
  obtain ⟨c, hc, hcB⟩ : ∃ c : Nat, cut.tmod (((encB wb).length : Nat) : Int) = (c : Int) ∧ c < (encB wb).length := by
    have h1 := Int.tmod_nonneg (((encB wb).length : Nat) : Int) hcut.1
    have h2 := Int.tmod_lt_of_pos cut (show (0 : Int) < (((encB wb).length : Nat) : Int) by rw [lenB]; omega)
    exact ⟨(cut.tmod (((encB wb).length : Nat) : Int)).toNat, by omega, by omega⟩
  have esum : IntKind.wrap .i64 ((((encB wa).length : Nat) : Int) + (c : Int)) = (((encB wa).length + c : Nat) : Int) := by rw [IntWalk.i64_in _ (by rw [lenA]; omega)]; omega
  have ele : ((((encB wa).length + c : Nat) : Int) ≤ (((encB wa ++ encB wb).length : Nat) : Int)) = True := by simp only [eq_iff_iff, iff_true, List.length_append]; omega
  simp only [wkB, wkC, kernP, rd, rds, reduceIte, Nat.reduceEqDiff, Nat.reduceAdd, binop, intOp_mul, unop, shiftOp, strOp, isNil, fillElems, fillParts, elemZero, FQ, LeaveA, resA, resPV, resPVs, PV.fits, wkF, PV.leaf, Nat.reduceBEq, Nat.reduceLT, Nat.reduceLeDiff, Int.reduceLT, Int.reduceLE, Int.reduceToNat, spl, set_set, intOp_rem nzB, ewc, hc, esum, boundsOf, hiOf, ele, nn_k, maxOk, Option.isSome_none]
  have chain1 : Chain ((encB wa ++ encB wb).take ((encB wa).length + c)) 0 [(wa, va)] := by
    have et : (encB wa ++ encB wb).take ((encB wa).length + c) = encB wa ++ (encB wb).take c := by
      rw [List.take_append]; congr 1
      · exact List.take_of_length_le (by omega)
      · congr 1; omega
    rw [et]
    refine ⟨Nat.zero_le _, ?_, ?_⟩
    · rw [List.drop_zero, hwa]; exact recAt_enc oa (by rw [← hwa]; unfold wmax; omega)
    · have e : 0 + (16 + 8 * wa.length) = (encB wa).length := by rw [lenA]; omega
      rw [e]
      refine ⟨by rw [List.length_append]; omega, ?_⟩
      rw [List.drop_left, hwb]
      exact recEnd_cut (by rw [← hwb]; unfold wmax; omega) (by rw [← hwb]; exact hcB)
  have end1 : endOf 0 [(wa, va)] = (encB wa).length := by
    show 0 + (16 + 8 * wa.length) = _
    rw [lenA]; omega
  refine recovered_ok (by rw [List.length_take, List.length_append, lenA, lenB]; omega) (by simp) chain1 ?_
  intro ts fs μ7 L7 rf k7
  rw [end1]
  have etk : ((encB wa ++ encB wb).take ((encB wa).length + c)).take (encB wa).length = encB wa := by
    rw [List.take_take, Nat.min_eq_left (by omega), List.take_left]
  rw [etk]
  have g13 := k7.at (at_self (μ := μ6) (p := q13) (o := .cells [.sl tr 22 es, .sl .full 1 (encB wa ++ encB wb)]))
  have ga7 := k7.at (at_set (o := .cells [.sl tr 22 es, .sl .full 1 (encB wa ++ encB wb)]) q13a ga6)
  have gb7 := k7.at (at_set (o := .cells [.sl tr 22 es, .sl .full 1 (encB wa ++ encB wb)]) q13b gb6)
  have K11 := (K10.call k7).full
  clear k7 K9 K10 ga6 gb6
  simp only [wkB, wkC, kernP, rd, rds, reduceIte, Nat.reduceEqDiff, Nat.reduceAdd, binop, intOp_mul, unop, shiftOp, strOp, isNil, fillElems, fillParts, elemZero, FQ, LeaveA, resA, resPV, resPVs, PV.fits, wkF, PV.leaf, Nat.reduceBEq, Nat.reduceLT, Nat.reduceLeDiff, Int.reduceLT, Int.reduceLE, Int.reduceToNat, spl, set_set]
  intro q14 hq14
  have q14a : ¬ qa = q14 := fun e => by rw [e, hq14.1] at ga7; cases ga7
  have q14b : ¬ qb = q14 := fun e => by rw [e, hq14.1] at gb7; cases gb7
  have q14c : ¬ q13 = q14 := fun e => by rw [e, hq14.1] at g13; cases g13
  have K12 := K11.set (o := .cells [.sl ts 22 fs, .sl .full 1 (encB wa)]) (K11.fresh hq14).1
  have chain0 : Chain (encB wa) 0 [(wa, va)] := by
    refine ⟨Nat.zero_le _, ?_, ?_⟩
    · rw [List.drop_zero, hwa]
      have := recAt_enc (rest := []) oa (by rw [← hwa]; unfold wmax; omega)
      rwa [List.append_nil] at this
    · have e : 0 + (16 + 8 * wa.length) = (encB wa).length := by rw [lenA]; omega
      rw [e]
      exact ⟨Nat.le_refl _, by rw [List.drop_length]; exact recEnd_nil⟩
  refine recovered_ok (by rw [lenA]; omega) (by simp) chain0 ?_
  intro tv hs μ8 L8 rh k8
  rw [end1, List.take_length]
  have g14 := k8.at (at_self (μ := μ7) (p := q14) (o := .cells [.sl ts 22 fs, .sl .full 1 (encB wa)]))
  have g13' := k8.at (at_set (o := .cells [.sl ts 22 fs, .sl .full 1 (encB wa)]) q14c g13)
  have ga8 := k8.at (at_set (o := .cells [.sl ts 22 fs, .sl .full 1 (encB wa)]) q14a ga7)
  have gb8 := k8.at (at_set (o := .cells [.sl ts 22 fs, .sl .full 1 (encB wa)]) q14b gb7)
  have K13 := (K12.call k8).full
  clear k8 K11 K12 ga7 gb7 g13
  simp only [wkB, wkC, kernP, rd, rds, reduceIte, Nat.reduceEqDiff, Nat.reduceAdd, binop, intOp_mul, unop, shiftOp, strOp, isNil, fillElems, fillParts, elemZero, FQ, LeaveA, resA, resPV, resPVs, PV.fits, wkF, PV.leaf, Nat.reduceBEq, Nat.reduceLT, Nat.reduceLeDiff, Int.reduceLT, Int.reduceLE, Int.reduceToNat, spl, set_set]
  intro q15 hq15
  have q15a : ¬ qa = q15 := fun e => by rw [e, hq15.1] at ga8; cases ga8
  have q15b : ¬ qb = q15 := fun e => by rw [e, hq15.1] at gb8; cases gb8
  have q15c : ¬ q13 = q15 := fun e => by rw [e, hq15.1] at g13'; cases g13'
  have q15d : ¬ q14 = q15 := fun e => by rw [e, hq15.1] at g14; cases g14
  have K14 := K13.set (o := .cells [.sl tv 22 hs, .sl .full 1 (encB wa)]) (K13.fresh hq15).1
  simp only [wkB, wkC, kernP, rd, rds, reduceIte, Nat.reduceEqDiff, Nat.reduceAdd, binop, intOp_mul, unop, shiftOp, strOp, isNil, fillElems, fillParts, elemZero, FQ, LeaveA, resA, resPV, resPVs, PV.fits, wkF, PV.leaf, Nat.reduceBEq, Nat.reduceLT, Nat.reduceLeDiff, Int.reduceLT, Int.reduceLE, Int.reduceToNat, q15a, q15b, q15c, q15d, ga8, gb8, g13', g14, hca, hcb, hta, htb, hla, hlb]
  have re' : RepL TEntry es [va, vb] := re
  have rf' : RepL TEntry fs [va] := rf
  refine same_entries re' (ys := [.agg ca, .agg cb]) ⟨ra, rb, trivial⟩ (by simp) (by
    intro v hv
    simp only [List.mem_cons, List.not_mem_nil, or_false] at hv
    rcases hv with rfl | rfl <;> omega) ?_
  intro μ9 L9 k9
  have h13 := k9.at (at_set (o := .cells [.sl tv 22 hs, .sl .full 1 (encB wa)]) q15c g13')
  have h14 := k9.at (at_set (o := .cells [.sl tv 22 hs, .sl .full 1 (encB wa)]) q15d g14)
  have h15 := k9.at (at_self (μ := μ8) (p := q15) (o := .cells [.sl tv 22 hs, .sl .full 1 (encB wa)]))
  have ha9 := k9.at (at_set (o := .cells [.sl tv 22 hs, .sl .full 1 (encB wa)]) q15a ga8)
  have K15 := K14.call k9
  obtain ⟨ba, hba⟩ := bytesOf_ex (encB_u8 wa)
  obtain ⟨bb, hbb⟩ := bytesOf_ex (encB_u8 wb)
  have hab2 := bytesOf_app hba hbb
  simp only [wkB, wkC, kernP, rd, rds, reduceIte, Nat.reduceEqDiff, Nat.reduceAdd, binop, intOp_mul, unop, shiftOp, strOp, isNil, fillElems, fillParts, elemZero, FQ, LeaveA, resA, resPV, resPVs, PV.fits, wkF, PV.leaf, Nat.reduceBEq, Nat.reduceLT, Nat.reduceLeDiff, Int.reduceLT, Int.reduceLE, Int.reduceToNat, h13]
  refine b2s_ok (xs := encB wa ++ encB wb) (by (simp only [rd, upd_app, reduceIte, Nat.reduceEqDiff]); try rfl) hab2 ?_
  simp only [wkB, wkC, kernP, rd, rds, reduceIte, Nat.reduceEqDiff, Nat.reduceAdd, binop, intOp_mul, unop, shiftOp, strOp, isNil, fillElems, fillParts, elemZero, FQ, LeaveA, resA, resPV, resPVs, PV.fits, wkF, PV.leaf, Nat.reduceBEq, Nat.reduceLT, Nat.reduceLeDiff, Int.reduceLT, Int.reduceLE, Int.reduceToNat]
  refine b2s_ok (xs := encB wa ++ encB wb) (by (simp only [rd, upd_app, reduceIte, Nat.reduceEqDiff]); try rfl) hab2 ?_
  simp only [wkB, wkC, kernP, rd, rds, reduceIte, Nat.reduceEqDiff, Nat.reduceAdd, binop, intOp_mul, unop, shiftOp, strOp, isNil, fillElems, fillParts, elemZero, FQ, LeaveA, resA, resPV, resPVs, PV.fits, wkF, PV.leaf, Nat.reduceBEq, Nat.reduceLT, Nat.reduceLeDiff, Int.reduceLT, Int.reduceLE, Int.reduceToNat, h14, ha9, hca, hta, hla]
  refine same_entries rf' (ys := [.agg ca]) ⟨ra, trivial⟩ (by simp) (by
    intro v hv
    simp only [List.mem_cons, List.not_mem_nil, or_false] at hv
    subst hv; omega) ?_
  intro μ10 L10 k10
  have i14 := k10.at h14
  have i15 := k10.at h15
  have K16 := K15.call k10
  simp only [wkB, wkC, kernP, rd, rds, reduceIte, Nat.reduceEqDiff, Nat.reduceAdd, binop, intOp_mul, unop, shiftOp, strOp, isNil, fillElems, fillParts, elemZero, FQ, LeaveA, resA, resPV, resPVs, PV.fits, wkF, PV.leaf, Nat.reduceBEq, Nat.reduceLT, Nat.reduceLeDiff, Int.reduceLT, Int.reduceLE, Int.reduceToNat, i14]
  refine b2s_ok (xs := encB wa) (by (simp only [rd, upd_app, reduceIte, Nat.reduceEqDiff]); try rfl) hba ?_
  simp only [wkB, wkC, kernP, rd, rds, reduceIte, Nat.reduceEqDiff, Nat.reduceAdd, binop, intOp_mul, unop, shiftOp, strOp, isNil, fillElems, fillParts, elemZero, FQ, LeaveA, resA, resPV, resPVs, PV.fits, wkF, PV.leaf, Nat.reduceBEq, Nat.reduceLT, Nat.reduceLeDiff, Int.reduceLT, Int.reduceLE, Int.reduceToNat]
  refine b2s_ok (xs := encB wa) (by (simp only [rd, upd_app, reduceIte, Nat.reduceEqDiff]); try rfl) hba ?_
  simp only [wkB, wkC, kernP, rd, rds, reduceIte, Nat.reduceEqDiff, Nat.reduceAdd, binop, intOp_mul, unop, shiftOp, strOp, isNil, fillElems, fillParts, elemZero, FQ, LeaveA, resA, resPV, resPVs, PV.fits, wkF, PV.leaf, Nat.reduceBEq, Nat.reduceLT, Nat.reduceLeDiff, Int.reduceLT, Int.reduceLE, Int.reduceToNat, i15]
  refine b2s_ok (xs := encB wa) (by (simp only [rd, upd_app, reduceIte, Nat.reduceEqDiff]); try rfl) hba ?_
  simp only [wkB, wkC, kernP, rd, rds, reduceIte, Nat.reduceEqDiff, Nat.reduceAdd, binop, intOp_mul, unop, shiftOp, strOp, isNil, fillElems, fillParts, elemZero, FQ, LeaveA, resA, resPV, resPVs, PV.fits, wkF, PV.leaf, Nat.reduceBEq, Nat.reduceLT, Nat.reduceLeDiff, Int.reduceLT, Int.reduceLE, Int.reduceToNat]
  refine b2s_ok (xs := encB wa) (by (simp only [rd, upd_app, reduceIte, Nat.reduceEqDiff]); try rfl) hba ?_
  have n8 : (8 : Int) ≠ 0 := by decide
  have er : (((encB wa).length : Nat) : Int).tmod 8 = 0 := by
    rw [lenA]
    have : ((8 * (wa.length + 2) : Nat) : Int) = 8 * ((wa.length + 2 : Nat) : Int) := by omega
    rw [this]; exact Int.mul_tmod_right _ _
  have e00 : ((0 : Int) == 0) = true := rfl
  simp only [wkB, wkC, kernP, rd, rds, reduceIte, Nat.reduceEqDiff, Nat.reduceAdd, binop, intOp_mul, unop, shiftOp, strOp, isNil, fillElems, fillParts, elemZero, FQ, LeaveA, resA, resPV, resPVs, PV.fits, wkF, PV.leaf, Nat.reduceBEq, Nat.reduceLT, Nat.reduceLeDiff, Int.reduceLT, Int.reduceLE, Int.reduceToNat, intOp_rem n8, er, e00]
  exact ⟨_, rfl, hK _ _ K16⟩

end Go.Bm
