/- Walks: visitors of structs, of bytes, of entries. -/
import Derived.Test.YtjgoicmdcegmnaaGreatWkA
import Derived.Test.YtjgoicmdcegmnaaGreatAcA

set_option linter.unusedVariables false
set_option linter.unusedSimpArgs false

/- Visitors: structs. -/
namespace Go.Bm
open Go Go.Proofs

theorem visit_pair {m : Md} {a b : Ty} {x : a.den} {y : b.den} {v' : (Ty.pair a b).den} {ws ws' : List Int} (h : visit m (.pair a b) (x, y) ws = some (v', ws')) :
    ∃ x' y' ws1, visit m a x ws = some (x', ws1) ∧ visit m b y ws1 = some (y', ws') ∧ v' = (x', y') := by
  simp only [visit] at h
  split at h
  · cases h
  · rename_i x' ws1 h1
    split at h
    · cases h
    · rename_i y' ws2 h2
      simp only [Option.some.injEq, Prod.mk.injEq] at h
      obtain ⟨rfl, rfl⟩ := h
      exact ⟨x', y', ws1, h1, h2, rfl⟩

theorem cells_eq {o : Option AObj} {X Y : List PV} (h : o = some (.cells X)) (e : X = Y) : o = some (.cells Y) := e ▸ h

abbrev TAbs : Ty := .nums 4
abbrev TRef : Ty := .pair .int TAbs
abbrev TSum : Ty := .pair .int (.pair TAbs (.pair (.nums 2) (.pair (.list (.nums 2)) .int)))
abbrev TFact : Ty := .pair .bool (.pair (.list TAbs) (.pair (.list (.list .int)) (.pair (.list TRef) (.pair (.list .int) (.nums 2)))))
abbrev TNeed : Ty := .pair .int (.pair .bytes (.pair (.list .int) (.pair (.list TSum) (.pair (.list (.nums 9)) .int))))
abbrev TEntry : Ty := .pair TNeed (.pair .int (.pair (.list TFact) (.pair TSum (.pair (.list (.nums 2)) (.pair (.list (.nums 2)) (.list .int))))))

theorem truth_ok : VisOk .bool 69 := by
  intro m k0 i off A cs B v v' ws ws' μ L K KP h1 h3 h4 h5 h6 h8 hK
  have h5' : cs = [PV.bool v] := h5
  subst h5'
  refine acall_of_aw mix fn69 (by simp) ?_
  unfold ac69
  have hfit := vis_fits m k0
  simp only [PV.fits, PV.flat] at hfit
  simp only [wkB, wkC, kernP, rd, rds, reduceIte, Nat.reduceEqDiff, Nat.reduceAdd, binop, intOp_mul, unop, shiftOp, strOp, isNil, fillElems, fillParts, elemZero, FQ, LeaveA, resA, resPV, resPVs, PV.fits, PV.flat, PV.leaf, Nat.reduceBEq, Nat.reduceLT, Nat.reduceLeDiff, Int.reduceLT, Int.reduceLE, Int.reduceToNat, hfit]
  intro b hb
  have hib : i ≠ b := fun e => by rw [e, hb.1] at h3; cases h3
  have hbk : b ≠ k0 := fun e => h6.ne (e ▸ hb.1)
  have e4 : (A ++ [PV.bool v] ++ B)[off]? = some (PV.bool v) := get_mid rfl h4
  generalize hC : A ++ [PV.bool v] ++ B = C at h3 e4
  have e5 : off + 1 ≤ C.length := by rw [← hC]; simp; omega
  have ev := vis_num m k0
  simp only [visit] at h8
  split at h8
  · cases h8
  · rename_i n ws1 hn
    have hz : n = 0 ∧ v' = false ∨ n = 1 ∧ v' = true := by
      split at h8
      · rename_i e; cases h8; exact .inl ⟨e, rfl⟩
      · split at h8
        · rename_i e; cases h8; exact .inr ⟨e, rfl⟩
        · cases h8
    have hw : ws1 = ws' := by
      split at h8
      · cases h8; rfl
      · split at h8
        · cases h8; rfl
        · cases h8
    subst hw
    cases v with
    | true =>
      simp only [wkB, wkC, kernP, rd, rds, reduceIte, Nat.reduceEqDiff, Nat.reduceAdd, binop, intOp_mul, unop, shiftOp, strOp, isNil, fillElems, fillParts, elemZero, FQ, LeaveA, resA, resPV, resPVs, PV.fits, PV.flat, PV.leaf, Nat.reduceBEq, Nat.reduceLT, Nat.reduceLeDiff, Int.reduceLT, Int.reduceLE, Int.reduceToNat, hib, h3, e4, ev, Nat.add_zero]
      refine num_ok (h6.box hb) hn ?_
      intro μ1 L1 s1
      have g3 : μ1 i = some (.cells C) := by rw [s1.fr i h1 (fun h => h) (by simp [Mem.set, hib, h3])]; simp [Mem.set, hib, h3]
      rcases hz with ⟨rfl, rfl⟩ | ⟨rfl, rfl⟩
      · simp only [wkB, wkC, kernP, rd, rds, reduceIte, Nat.reduceEqDiff, Nat.reduceAdd, binop, intOp_mul, unop, shiftOp, strOp, isNil, fillElems, fillParts, elemZero, FQ, LeaveA, resA, resPV, resPVs, PV.fits, PV.flat, PV.leaf, Nat.reduceBEq, Nat.reduceLT, Nat.reduceLeDiff, Int.reduceLT, Int.reduceLE, Int.reduceToNat, Int.reduceBEq]
        refine need_ok ?_
        simp only [wkB, wkC, kernP, rd, rds, reduceIte, Nat.reduceEqDiff, Nat.reduceAdd, binop, intOp_mul, unop, shiftOp, strOp, isNil, fillElems, fillParts, elemZero, FQ, LeaveA, resA, resPV, resPVs, PV.fits, PV.flat, PV.leaf, Nat.reduceBEq, Nat.reduceLT, Nat.reduceLeDiff, Int.reduceLT, Int.reduceLE, Int.reduceToNat, g3, e5, Int.reduceBEq]
        refine ⟨_, rfl, hK [.bool false] _ _ rfl ?_ ((s1.putAt h1).box hb h6.ne)⟩
        rw [set_same, spl_mid' (n := 1) hC.symm h4 rfl]
      · simp only [wkB, wkC, kernP, rd, rds, reduceIte, Nat.reduceEqDiff, Nat.reduceAdd, binop, intOp_mul, unop, shiftOp, strOp, isNil, fillElems, fillParts, elemZero, FQ, LeaveA, resA, resPV, resPVs, PV.fits, PV.flat, PV.leaf, Nat.reduceBEq, Nat.reduceLT, Nat.reduceLeDiff, Int.reduceLT, Int.reduceLE, Int.reduceToNat, Int.reduceBEq]
        refine need_ok ?_
        simp only [wkB, wkC, kernP, rd, rds, reduceIte, Nat.reduceEqDiff, Nat.reduceAdd, binop, intOp_mul, unop, shiftOp, strOp, isNil, fillElems, fillParts, elemZero, FQ, LeaveA, resA, resPV, resPVs, PV.fits, PV.flat, PV.leaf, Nat.reduceBEq, Nat.reduceLT, Nat.reduceLeDiff, Int.reduceLT, Int.reduceLE, Int.reduceToNat, g3, e5, Int.reduceBEq]
        refine ⟨_, rfl, hK [.bool true] _ _ rfl ?_ ((s1.putAt h1).box hb h6.ne)⟩
        rw [set_same, spl_mid' (n := 1) hC.symm h4 rfl]
    | false =>
      simp only [wkB, wkC, kernP, rd, rds, reduceIte, Nat.reduceEqDiff, Nat.reduceAdd, binop, intOp_mul, unop, shiftOp, strOp, isNil, fillElems, fillParts, elemZero, FQ, LeaveA, resA, resPV, resPVs, PV.fits, PV.flat, PV.leaf, Nat.reduceBEq, Nat.reduceLT, Nat.reduceLeDiff, Int.reduceLT, Int.reduceLE, Int.reduceToNat, hib, h3, e4, ev, Nat.add_zero]
      refine num_ok (h6.box hb) hn ?_
      intro μ1 L1 s1
      have g3 : μ1 i = some (.cells C) := by rw [s1.fr i h1 (fun h => h) (by simp [Mem.set, hib, h3])]; simp [Mem.set, hib, h3]
      rcases hz with ⟨rfl, rfl⟩ | ⟨rfl, rfl⟩
      · simp only [wkB, wkC, kernP, rd, rds, reduceIte, Nat.reduceEqDiff, Nat.reduceAdd, binop, intOp_mul, unop, shiftOp, strOp, isNil, fillElems, fillParts, elemZero, FQ, LeaveA, resA, resPV, resPVs, PV.fits, PV.flat, PV.leaf, Nat.reduceBEq, Nat.reduceLT, Nat.reduceLeDiff, Int.reduceLT, Int.reduceLE, Int.reduceToNat, Int.reduceBEq]
        refine need_ok ?_
        simp only [wkB, wkC, kernP, rd, rds, reduceIte, Nat.reduceEqDiff, Nat.reduceAdd, binop, intOp_mul, unop, shiftOp, strOp, isNil, fillElems, fillParts, elemZero, FQ, LeaveA, resA, resPV, resPVs, PV.fits, PV.flat, PV.leaf, Nat.reduceBEq, Nat.reduceLT, Nat.reduceLeDiff, Int.reduceLT, Int.reduceLE, Int.reduceToNat, g3, e5, Int.reduceBEq]
        refine ⟨_, rfl, hK [.bool false] _ _ rfl ?_ ((s1.putAt h1).box hb h6.ne)⟩
        rw [set_same, spl_mid' (n := 1) hC.symm h4 rfl]
      · simp only [wkB, wkC, kernP, rd, rds, reduceIte, Nat.reduceEqDiff, Nat.reduceAdd, binop, intOp_mul, unop, shiftOp, strOp, isNil, fillElems, fillParts, elemZero, FQ, LeaveA, resA, resPV, resPVs, PV.fits, PV.flat, PV.leaf, Nat.reduceBEq, Nat.reduceLT, Nat.reduceLeDiff, Int.reduceLT, Int.reduceLE, Int.reduceToNat, Int.reduceBEq]
        refine need_ok ?_
        simp only [wkB, wkC, kernP, rd, rds, reduceIte, Nat.reduceEqDiff, Nat.reduceAdd, binop, intOp_mul, unop, shiftOp, strOp, isNil, fillElems, fillParts, elemZero, FQ, LeaveA, resA, resPV, resPVs, PV.fits, PV.flat, PV.leaf, Nat.reduceBEq, Nat.reduceLT, Nat.reduceLeDiff, Int.reduceLT, Int.reduceLE, Int.reduceToNat, g3, e5, Int.reduceBEq]
        refine ⟨_, rfl, hK [.bool true] _ _ rfl ?_ ((s1.putAt h1).box hb h6.ne)⟩
        rw [set_same, spl_mid' (n := 1) hC.symm h4 rfl]

theorem ref_ok : BoxOk TRef 74 := by
  intro m k0 b i off A cs B v v' ws ws' μ L K KP h1 hbs h3 h4 h5 h6 h7 h8 hK
  obtain ⟨x1, v⟩ := v
  obtain ⟨c1, cs, rfl, q1, h5⟩ := h5
  obtain ⟨y1, V1, ws1, p1, H1, eV1⟩ := visit_pair h8
  subst eV1
  refine acall_of_aw mix fn74 (by simp) ?_
  unfold ac74
  have gb0 := (h7 b (by simp)).2
  have hbk := (h7 b (by simp)).1
  have hib : i ≠ b := fun e => hbs (by simp [e])
  have g0 : μ i = some (.cells (A ++ c1 ++ (cs ++ B))) := cells_eq h3 (by simp only [List.append_assoc])
  have S0 : VStep m k0 (· = i) ws ws μ L μ L := .refl h6
  obtain ⟨μ0, hμ0⟩ : ∃ μ0, μ0 = μ := ⟨_, rfl⟩
  rw [← hμ0] at g0 gb0
  have S0 : VStep m k0 (· = i) ws ws μ0 L μ0 L := by rw [hμ0]; exact S0
  have hS : ∀ {μ' L'}, VStep m k0 (· = i) ws ws' μ0 L μ' L' → VStep m k0 (· = i) ws ws' μ L μ' L' := by intro μ' L' h; rw [← hμ0]; exact h
  rw [← hμ0]
  simp only [aw_seq]
  -- field 1
  have a1 : (A).length = off + 0 := by first | omega | (simp only [List.length_append]; omega)
  refine aw_draw (by decide) (fun _ _ _ h => h) ?_
  simp only [wkB, wkC, kernP, rd, rds, reduceIte, Nat.reduceEqDiff, Nat.reduceAdd, binop, intOp_mul, unop, shiftOp, strOp, isNil, fillElems, fillParts, elemZero, FQ, LeaveA, resA, resPV, resPVs, PV.fits, PV.flat, PV.leaf, Nat.reduceBEq, Nat.reduceLT, Nat.reduceLeDiff, Int.reduceLT, Int.reduceLE, Int.reduceToNat, vis_len, vis_take, gb0, Nat.add_zero, Nat.add_assoc]
  refine nums_ok (n := 0) (off := off + 0) (A := A) (B := (cs ++ B)) h1 g0 a1 q1 (by decide) S0.vs p1 ?_
  intro d1 μ1 L1 o1 g1 s1
  have S1 := S0.trans s1
  have gb1 : μ1 b = some (.cells (vis m k0)) := by rw [s1.fr b hbk (fun h => hib h.symm) (by rw [gb0]; simp), gb0]
  simp only [wkB, wkC, kernP, rd, rds, reduceIte, Nat.reduceEqDiff, Nat.reduceAdd, binop, intOp_mul, unop, shiftOp, strOp, isNil, fillElems, fillParts, elemZero, FQ, LeaveA, resA, resPV, resPVs, PV.fits, PV.flat, PV.leaf, Nat.reduceBEq, Nat.reduceLT, Nat.reduceLeDiff, Int.reduceLT, Int.reduceLE, Int.reduceToNat]
  have l1 : d1.length = 1 := o1.length
  replace g1 := cells_eq g1 (Y := A ++ d1 ++ cs ++ B) (by simp only [List.append_assoc])
  -- field 2
  have a2 : (A ++ d1).length = off + 1 := by first | omega | (simp only [List.length_append]; omega)
  refine aw_draw (by decide) (fun _ _ _ h => h) ?_
  simp only [wkB, wkC, kernP, rd, rds, reduceIte, Nat.reduceEqDiff, Nat.reduceAdd, binop, intOp_mul, unop, shiftOp, strOp, isNil, fillElems, fillParts, elemZero, FQ, LeaveA, resA, resPV, resPVs, PV.fits, PV.flat, PV.leaf, Nat.reduceBEq, Nat.reduceLT, Nat.reduceLeDiff, Int.reduceLT, Int.reduceLE, Int.reduceToNat, vis_len, vis_take, gb1, Nat.add_zero, Nat.add_assoc]
  refine abs_ok m k0 i _ (A ++ d1) cs B _ _ _ _ _ _ _ _ h1 g1 a2 h5 S1.vs H1 ?_
  intro d2 μ2 L2 o2 g2 s2
  have S2 := S1.trans s2
  have gb2 : μ2 b = some (.cells (vis m k0)) := by rw [s2.fr b hbk (fun h => hib h.symm) (by rw [gb1]; simp), gb1]
  simp only [wkB, wkC, kernP, rd, rds, reduceIte, Nat.reduceEqDiff, Nat.reduceAdd, binop, intOp_mul, unop, shiftOp, strOp, isNil, fillElems, fillParts, elemZero, FQ, LeaveA, resA, resPV, resPVs, PV.fits, PV.flat, PV.leaf, Nat.reduceBEq, Nat.reduceLT, Nat.reduceLeDiff, Int.reduceLT, Int.reduceLE, Int.reduceToNat]
  have l2 : d2.length = 5 := o2.length
  exact ⟨_, rfl, hK _ _ _ ⟨_, _, rfl, o1, o2⟩ (cells_eq g2 (by simp only [List.append_assoc])) (hS S2)⟩

theorem sum_ok : VisOk TSum 30 := by
  intro m k0 i off A cs B v v' ws ws' μ L K KP h1 h3 h4 h5 h6 h8 hK
  obtain ⟨x1, v⟩ := v
  obtain ⟨c1, cs, rfl, q1, h5⟩ := h5
  obtain ⟨y1, V1, ws1, p1, H1, eV1⟩ := visit_pair h8
  subst eV1
  obtain ⟨x2, v⟩ := v
  obtain ⟨c2, cs, rfl, q2, h5⟩ := h5
  obtain ⟨y2, V2, ws2, p2, H2, eV2⟩ := visit_pair H1
  subst eV2
  obtain ⟨x3, v⟩ := v
  obtain ⟨c3, cs, rfl, q3, h5⟩ := h5
  obtain ⟨y3, V3, ws3, p3, H3, eV3⟩ := visit_pair H2
  subst eV3
  obtain ⟨x4, v⟩ := v
  obtain ⟨c4, cs, rfl, q4, h5⟩ := h5
  obtain ⟨y4, V4, ws4, p4, H4, eV4⟩ := visit_pair H3
  subst eV4
  refine acall_of_aw mix fn30 (by simp) ?_
  unfold ac30
  have hfit := vis_fits m k0
  simp only [PV.fits, PV.flat] at hfit
  simp only [wkB, wkC, kernP, rd, rds, reduceIte, Nat.reduceEqDiff, Nat.reduceAdd, binop, intOp_mul, unop, shiftOp, strOp, isNil, fillElems, fillParts, elemZero, FQ, LeaveA, resA, resPV, resPVs, PV.fits, PV.flat, PV.leaf, Nat.reduceBEq, Nat.reduceLT, Nat.reduceLeDiff, Int.reduceLT, Int.reduceLE, Int.reduceToNat, hfit]
  intro b hb
  have hib : i ≠ b := fun e => by rw [e, hb.1] at h3; cases h3
  have hbk : b ≠ k0 := fun e => h6.ne (e ▸ hb.1)
  have S0 : VStep m k0 (· = i) ws ws (μ.set b (.cells (vis m k0))) L (μ.set b (.cells (vis m k0))) L := .refl (h6.box hb)
  have gb0 : (μ.set b (.cells (vis m k0))) b = some (.cells (vis m k0)) := by simp [Mem.set]
  have g0 : (μ.set b (.cells (vis m k0))) i = some (.cells (A ++ c1 ++ (c2 ++ (c3 ++ (c4 ++ (cs ++ B)))))) := cells_eq (by simp only [Mem.set, hib, if_false]; exact h3) (by simp only [List.append_assoc])
  obtain ⟨μ0, hμ0⟩ : ∃ μ0, μ0 = (μ.set b (.cells (vis m k0))) := ⟨_, rfl⟩
  have hS : ∀ {μ' L'}, VStep m k0 (· = i) ws ws' μ0 L μ' L' → VStep m k0 (· = i) ws ws' μ L μ' L' := by intro μ' L' h; rw [hμ0] at h; exact h.box hb h6.ne
  rw [← hμ0] at g0 gb0 S0 ⊢
  -- field 1
  have a1 : (A).length = off + 0 := by first | omega | (simp only [List.length_append]; omega)
  refine aw_draw (by decide) (fun _ _ _ h => h) ?_
  simp only [wkB, wkC, kernP, rd, rds, reduceIte, Nat.reduceEqDiff, Nat.reduceAdd, binop, intOp_mul, unop, shiftOp, strOp, isNil, fillElems, fillParts, elemZero, FQ, LeaveA, resA, resPV, resPVs, PV.fits, PV.flat, PV.leaf, Nat.reduceBEq, Nat.reduceLT, Nat.reduceLeDiff, Int.reduceLT, Int.reduceLE, Int.reduceToNat, vis_len, vis_take, gb0, Nat.add_zero, Nat.add_assoc]
  refine nums_ok (n := 0) (off := off + 0) (A := A) (B := (c2 ++ (c3 ++ (c4 ++ (cs ++ B))))) h1 g0 a1 q1 (by decide) S0.vs p1 ?_
  intro d1 μ1 L1 o1 g1 s1
  have S1 := S0.trans s1
  have gb1 : μ1 b = some (.cells (vis m k0)) := by rw [s1.fr b hbk (fun h => hib h.symm) (by rw [gb0]; simp), gb0]
  simp only [wkB, wkC, kernP, rd, rds, reduceIte, Nat.reduceEqDiff, Nat.reduceAdd, binop, intOp_mul, unop, shiftOp, strOp, isNil, fillElems, fillParts, elemZero, FQ, LeaveA, resA, resPV, resPVs, PV.fits, PV.flat, PV.leaf, Nat.reduceBEq, Nat.reduceLT, Nat.reduceLeDiff, Int.reduceLT, Int.reduceLE, Int.reduceToNat]
  have l1 : d1.length = 1 := o1.length
  replace g1 := cells_eq g1 (Y := A ++ d1 ++ c2 ++ (c3 ++ (c4 ++ (cs ++ B)))) (by simp only [List.append_assoc])
  -- field 2
  have a2 : (A ++ d1).length = off + 1 := by first | omega | (simp only [List.length_append]; omega)
  refine aw_draw (by decide) (fun _ _ _ h => h) ?_
  simp only [wkB, wkC, kernP, rd, rds, reduceIte, Nat.reduceEqDiff, Nat.reduceAdd, binop, intOp_mul, unop, shiftOp, strOp, isNil, fillElems, fillParts, elemZero, FQ, LeaveA, resA, resPV, resPVs, PV.fits, PV.flat, PV.leaf, Nat.reduceBEq, Nat.reduceLT, Nat.reduceLeDiff, Int.reduceLT, Int.reduceLE, Int.reduceToNat, vis_len, vis_take, gb1, Nat.add_zero, Nat.add_assoc]
  refine abs_ok m k0 i _ (A ++ d1) c2 (c3 ++ (c4 ++ (cs ++ B))) _ _ _ _ _ _ _ _ h1 g1 a2 q2 S1.vs p2 ?_
  intro d2 μ2 L2 o2 g2 s2
  have S2 := S1.trans s2
  have gb2 : μ2 b = some (.cells (vis m k0)) := by rw [s2.fr b hbk (fun h => hib h.symm) (by rw [gb1]; simp), gb1]
  simp only [wkB, wkC, kernP, rd, rds, reduceIte, Nat.reduceEqDiff, Nat.reduceAdd, binop, intOp_mul, unop, shiftOp, strOp, isNil, fillElems, fillParts, elemZero, FQ, LeaveA, resA, resPV, resPVs, PV.fits, PV.flat, PV.leaf, Nat.reduceBEq, Nat.reduceLT, Nat.reduceLeDiff, Int.reduceLT, Int.reduceLE, Int.reduceToNat]
  have l2 : d2.length = 5 := o2.length
  replace g2 := cells_eq g2 (Y := A ++ d1 ++ d2 ++ c3 ++ (c4 ++ (cs ++ B))) (by simp only [List.append_assoc])
  -- field 3
  have a3 : (A ++ d1 ++ d2).length = off + 6 := by first | omega | (simp only [List.length_append]; omega)
  refine aw_draw (by decide) (fun _ _ _ h => h) ?_
  simp only [wkB, wkC, kernP, rd, rds, reduceIte, Nat.reduceEqDiff, Nat.reduceAdd, binop, intOp_mul, unop, shiftOp, strOp, isNil, fillElems, fillParts, elemZero, FQ, LeaveA, resA, resPV, resPVs, PV.fits, PV.flat, PV.leaf, Nat.reduceBEq, Nat.reduceLT, Nat.reduceLeDiff, Int.reduceLT, Int.reduceLE, Int.reduceToNat, vis_len, vis_take, gb2, Nat.add_zero, Nat.add_assoc]
  refine nums_ok (n := 2) (off := off + 6) (A := A ++ d1 ++ d2) (B := (c4 ++ (cs ++ B))) h1 g2 a3 q3 (by decide) S2.vs p3 ?_
  intro d3 μ3 L3 o3 g3 s3
  have S3 := S2.trans s3
  have gb3 : μ3 b = some (.cells (vis m k0)) := by rw [s3.fr b hbk (fun h => hib h.symm) (by rw [gb2]; simp), gb2]
  simp only [wkB, wkC, kernP, rd, rds, reduceIte, Nat.reduceEqDiff, Nat.reduceAdd, binop, intOp_mul, unop, shiftOp, strOp, isNil, fillElems, fillParts, elemZero, FQ, LeaveA, resA, resPV, resPVs, PV.fits, PV.flat, PV.leaf, Nat.reduceBEq, Nat.reduceLT, Nat.reduceLeDiff, Int.reduceLT, Int.reduceLE, Int.reduceToNat]
  have l3 : d3.length = 3 := o3.length
  replace g3 := cells_eq g3 (Y := A ++ d1 ++ d2 ++ d3 ++ c4 ++ (cs ++ B)) (by simp only [List.append_assoc])
  -- field 4
  have a4 : (A ++ d1 ++ d2 ++ d3).length = off + 9 := by first | omega | (simp only [List.length_append]; omega)
  refine aw_draw (by decide) (fun _ _ _ h => h) ?_
  simp only [wkB, wkC, kernP, rd, rds, reduceIte, Nat.reduceEqDiff, Nat.reduceAdd, binop, intOp_mul, unop, shiftOp, strOp, isNil, fillElems, fillParts, elemZero, FQ, LeaveA, resA, resPV, resPVs, PV.fits, PV.flat, PV.leaf, Nat.reduceBEq, Nat.reduceLT, Nat.reduceLeDiff, Int.reduceLT, Int.reduceLE, Int.reduceToNat, vis_len, vis_take, gb3, Nat.add_zero, Nat.add_assoc]
  refine pairs_ok m k0 i _ (A ++ d1 ++ d2 ++ d3) c4 (cs ++ B) _ _ _ _ _ _ _ _ h1 g3 a4 q4 S3.vs p4 ?_
  intro d4 μ4 L4 o4 g4 s4
  have S4 := S3.trans s4
  have gb4 : μ4 b = some (.cells (vis m k0)) := by rw [s4.fr b hbk (fun h => hib h.symm) (by rw [gb3]; simp), gb3]
  simp only [wkB, wkC, kernP, rd, rds, reduceIte, Nat.reduceEqDiff, Nat.reduceAdd, binop, intOp_mul, unop, shiftOp, strOp, isNil, fillElems, fillParts, elemZero, FQ, LeaveA, resA, resPV, resPVs, PV.fits, PV.flat, PV.leaf, Nat.reduceBEq, Nat.reduceLT, Nat.reduceLeDiff, Int.reduceLT, Int.reduceLE, Int.reduceToNat]
  have l4 : d4.length = 1 := o4.length
  replace g4 := cells_eq g4 (Y := A ++ d1 ++ d2 ++ d3 ++ d4 ++ cs ++ B) (by simp only [List.append_assoc])
  -- field 5
  have a5 : (A ++ d1 ++ d2 ++ d3 ++ d4).length = off + 10 := by first | omega | (simp only [List.length_append]; omega)
  refine aw_draw (by decide) (fun _ _ _ h => h) ?_
  simp only [wkB, wkC, kernP, rd, rds, reduceIte, Nat.reduceEqDiff, Nat.reduceAdd, binop, intOp_mul, unop, shiftOp, strOp, isNil, fillElems, fillParts, elemZero, FQ, LeaveA, resA, resPV, resPVs, PV.fits, PV.flat, PV.leaf, Nat.reduceBEq, Nat.reduceLT, Nat.reduceLeDiff, Int.reduceLT, Int.reduceLE, Int.reduceToNat, vis_len, vis_take, gb4, Nat.add_zero, Nat.add_assoc]
  refine nums_ok (n := 0) (off := off + 10) (A := A ++ d1 ++ d2 ++ d3 ++ d4) (B := B) h1 g4 a5 h5 (by decide) S4.vs H4 ?_
  intro d5 μ5 L5 o5 g5 s5
  have S5 := S4.trans s5
  have gb5 : μ5 b = some (.cells (vis m k0)) := by rw [s5.fr b hbk (fun h => hib h.symm) (by rw [gb4]; simp), gb4]
  simp only [wkB, wkC, kernP, rd, rds, reduceIte, Nat.reduceEqDiff, Nat.reduceAdd, binop, intOp_mul, unop, shiftOp, strOp, isNil, fillElems, fillParts, elemZero, FQ, LeaveA, resA, resPV, resPVs, PV.fits, PV.flat, PV.leaf, Nat.reduceBEq, Nat.reduceLT, Nat.reduceLeDiff, Int.reduceLT, Int.reduceLE, Int.reduceToNat]
  have l5 : d5.length = 1 := o5.length
  exact ⟨_, rfl, hK _ _ _ ⟨_, _, rfl, o1, ⟨_, _, rfl, o2, ⟨_, _, rfl, o3, ⟨_, _, rfl, o4, o5⟩⟩⟩⟩ (cells_eq g5 (by simp only [List.append_assoc])) (hS S5)⟩

theorem fact_ok : VisOk TFact 29 := by
  intro m k0 i off A cs B v v' ws ws' μ L K KP h1 h3 h4 h5 h6 h8 hK
  obtain ⟨x1, v⟩ := v
  obtain ⟨c1, cs, rfl, q1, h5⟩ := h5
  obtain ⟨y1, V1, ws1, p1, H1, eV1⟩ := visit_pair h8
  subst eV1
  obtain ⟨x2, v⟩ := v
  obtain ⟨c2, cs, rfl, q2, h5⟩ := h5
  obtain ⟨y2, V2, ws2, p2, H2, eV2⟩ := visit_pair H1
  subst eV2
  obtain ⟨x3, v⟩ := v
  obtain ⟨c3, cs, rfl, q3, h5⟩ := h5
  obtain ⟨y3, V3, ws3, p3, H3, eV3⟩ := visit_pair H2
  subst eV3
  obtain ⟨x4, v⟩ := v
  obtain ⟨c4, cs, rfl, q4, h5⟩ := h5
  obtain ⟨y4, V4, ws4, p4, H4, eV4⟩ := visit_pair H3
  subst eV4
  obtain ⟨x5, v⟩ := v
  obtain ⟨c5, cs, rfl, q5, h5⟩ := h5
  obtain ⟨y5, V5, ws5, p5, H5, eV5⟩ := visit_pair H4
  subst eV5
  refine acall_of_aw mix fn29 (by simp) ?_
  unfold ac29
  have hfit := vis_fits m k0
  simp only [PV.fits, PV.flat] at hfit
  simp only [wkB, wkC, kernP, rd, rds, reduceIte, Nat.reduceEqDiff, Nat.reduceAdd, binop, intOp_mul, unop, shiftOp, strOp, isNil, fillElems, fillParts, elemZero, FQ, LeaveA, resA, resPV, resPVs, PV.fits, PV.flat, PV.leaf, Nat.reduceBEq, Nat.reduceLT, Nat.reduceLeDiff, Int.reduceLT, Int.reduceLE, Int.reduceToNat, hfit]
  intro b hb
  have hib : i ≠ b := fun e => by rw [e, hb.1] at h3; cases h3
  have hbk : b ≠ k0 := fun e => h6.ne (e ▸ hb.1)
  have S0 : VStep m k0 (· = i) ws ws (μ.set b (.cells (vis m k0))) L (μ.set b (.cells (vis m k0))) L := .refl (h6.box hb)
  have gb0 : (μ.set b (.cells (vis m k0))) b = some (.cells (vis m k0)) := by simp [Mem.set]
  have g0 : (μ.set b (.cells (vis m k0))) i = some (.cells (A ++ c1 ++ (c2 ++ (c3 ++ (c4 ++ (c5 ++ (cs ++ B))))))) := cells_eq (by simp only [Mem.set, hib, if_false]; exact h3) (by simp only [List.append_assoc])
  obtain ⟨μ0, hμ0⟩ : ∃ μ0, μ0 = (μ.set b (.cells (vis m k0))) := ⟨_, rfl⟩
  have hS : ∀ {μ' L'}, VStep m k0 (· = i) ws ws' μ0 L μ' L' → VStep m k0 (· = i) ws ws' μ L μ' L' := by intro μ' L' h; rw [hμ0] at h; exact h.box hb h6.ne
  rw [← hμ0] at g0 gb0 S0 ⊢
  -- field 1
  have a1 : (A).length = off + 0 := by first | omega | (simp only [List.length_append]; omega)
  refine aw_draw (by decide) (fun _ _ _ h => h) ?_
  simp only [wkB, wkC, kernP, rd, rds, reduceIte, Nat.reduceEqDiff, Nat.reduceAdd, binop, intOp_mul, unop, shiftOp, strOp, isNil, fillElems, fillParts, elemZero, FQ, LeaveA, resA, resPV, resPVs, PV.fits, PV.flat, PV.leaf, Nat.reduceBEq, Nat.reduceLT, Nat.reduceLeDiff, Int.reduceLT, Int.reduceLE, Int.reduceToNat, vis_len, vis_take, gb0, Nat.add_zero, Nat.add_assoc]
  refine truth_ok m k0 i _ (A) c1 (c2 ++ (c3 ++ (c4 ++ (c5 ++ (cs ++ B))))) _ _ _ _ _ _ _ _ h1 g0 a1 q1 S0.vs p1 ?_
  intro d1 μ1 L1 o1 g1 s1
  have S1 := S0.trans s1
  have gb1 : μ1 b = some (.cells (vis m k0)) := by rw [s1.fr b hbk (fun h => hib h.symm) (by rw [gb0]; simp), gb0]
  simp only [wkB, wkC, kernP, rd, rds, reduceIte, Nat.reduceEqDiff, Nat.reduceAdd, binop, intOp_mul, unop, shiftOp, strOp, isNil, fillElems, fillParts, elemZero, FQ, LeaveA, resA, resPV, resPVs, PV.fits, PV.flat, PV.leaf, Nat.reduceBEq, Nat.reduceLT, Nat.reduceLeDiff, Int.reduceLT, Int.reduceLE, Int.reduceToNat]
  have l1 : d1.length = 1 := o1.length
  replace g1 := cells_eq g1 (Y := A ++ d1 ++ c2 ++ (c3 ++ (c4 ++ (c5 ++ (cs ++ B))))) (by simp only [List.append_assoc])
  -- field 2
  have a2 : (A ++ d1).length = off + 1 := by first | omega | (simp only [List.length_append]; omega)
  refine aw_draw (by decide) (fun _ _ _ h => h) ?_
  obtain ⟨tk2, xs2, rfl, hx2⟩ := q2
  have e2 := get_mid (cs := A ++ d1 ++ [PV.sl tk2 (Ty.size TAbs) xs2] ++ (c3 ++ (c4 ++ (c5 ++ (cs ++ B))))) rfl a2
  have z2 : off + 1 + 1 ≤ (A ++ d1 ++ [PV.sl tk2 (Ty.size TAbs) xs2] ++ (c3 ++ (c4 ++ (c5 ++ (cs ++ B))))).length := by simp only [List.length_append, List.length_cons, List.length_nil] at a2 ⊢; omega
  have u2 : ∀ d, spl (A ++ d1 ++ [PV.sl tk2 (Ty.size TAbs) xs2] ++ (c3 ++ (c4 ++ (c5 ++ (cs ++ B))))) (off + 1) 1 d = A ++ d1 ++ d ++ (c3 ++ (c4 ++ (c5 ++ (cs ++ B)))) := fun d => spl_mid' rfl a2 rfl
  generalize A ++ d1 ++ [PV.sl tk2 (Ty.size TAbs) xs2] ++ (c3 ++ (c4 ++ (c5 ++ (cs ++ B)))) = C2 at g1 e2 z2 u2
  simp only [wkB, wkC, kernP, rd, rds, reduceIte, Nat.reduceEqDiff, Nat.reduceAdd, binop, intOp_mul, unop, shiftOp, strOp, isNil, fillElems, fillParts, elemZero, FQ, LeaveA, resA, resPV, resPVs, PV.fits, PV.flat, PV.leaf, Nat.reduceBEq, Nat.reduceLT, Nat.reduceLeDiff, Int.reduceLT, Int.reduceLE, Int.reduceToNat, vis_len, vis_take, gb1, g1, e2, Nat.add_zero, Nat.add_assoc]
  refine list_ok (T := TAbs) (bs := []) (fn70.of_erase rfl) (fn141.of_erase rfl) (by decide) (EachOk.of_vis abs_ok m k0) S1.vs (fun c hc => by simp at hc) hx2 p2 ?_
  intro ys2 ν2 L2 r2 s2
  have n2 : ν2 i = some (.cells C2) := by rw [s2.fr i h1 (fun h => h) (by rw [g1]; simp), g1]
  have m2 : ν2 b = some (.cells (vis m k0)) := by rw [s2.fr b hbk (fun h => h) (by rw [gb1]; simp), gb1]
  simp only [wkB, wkC, kernP, rd, rds, reduceIte, Nat.reduceEqDiff, Nat.reduceAdd, binop, intOp_mul, unop, shiftOp, strOp, isNil, fillElems, fillParts, elemZero, FQ, LeaveA, resA, resPV, resPVs, PV.fits, PV.flat, PV.leaf, Nat.reduceBEq, Nat.reduceLT, Nat.reduceLeDiff, Int.reduceLT, Int.reduceLE, Int.reduceToNat, n2, z2, u2, Nat.add_zero, Nat.add_assoc]
  obtain ⟨d2, hd2⟩ : ∃ d, d = [PV.sl .no (Ty.size TAbs) ys2] := ⟨_, rfl⟩
  have o2 : Rep (.list TAbs) d2 y2 := hd2 ▸ ⟨.no, ys2, rfl, r2⟩
  rw [← hd2]
  have S2 : VStep m k0 (· = i) ws ws2 μ0 L (ν2.set i (.cells (A ++ d1 ++ d2 ++ (c3 ++ (c4 ++ (c5 ++ (cs ++ B))))))) L2 := S1.trans (s2.putAt h1)
  have g2 : (ν2.set i (.cells (A ++ d1 ++ d2 ++ (c3 ++ (c4 ++ (c5 ++ (cs ++ B))))))) i = some (.cells (A ++ d1 ++ d2 ++ (c3 ++ (c4 ++ (c5 ++ (cs ++ B)))))) := set_same
  have gb2 : (ν2.set i (.cells (A ++ d1 ++ d2 ++ (c3 ++ (c4 ++ (c5 ++ (cs ++ B))))))) b = some (.cells (vis m k0)) := by simp only [Mem.set, hib.symm, if_false]; exact m2
  generalize ν2.set i (.cells (A ++ d1 ++ d2 ++ (c3 ++ (c4 ++ (c5 ++ (cs ++ B)))))) = μ2 at S2 g2 gb2 ⊢
  have l2 : d2.length = 1 := o2.length
  replace g2 := cells_eq g2 (Y := A ++ d1 ++ d2 ++ c3 ++ (c4 ++ (c5 ++ (cs ++ B)))) (by simp only [List.append_assoc])
  -- field 3
  have a3 : (A ++ d1 ++ d2).length = off + 2 := by first | omega | (simp only [List.length_append]; omega)
  refine aw_draw (by decide) (fun _ _ _ h => h) ?_
  obtain ⟨tk3, xs3, rfl, hx3⟩ := q3
  have e3 := get_mid (cs := A ++ d1 ++ d2 ++ [PV.sl tk3 (Ty.size (.list .int)) xs3] ++ (c4 ++ (c5 ++ (cs ++ B)))) rfl a3
  have z3 : off + 2 + 1 ≤ (A ++ d1 ++ d2 ++ [PV.sl tk3 (Ty.size (.list .int)) xs3] ++ (c4 ++ (c5 ++ (cs ++ B)))).length := by simp only [List.length_append, List.length_cons, List.length_nil] at a3 ⊢; omega
  have u3 : ∀ d, spl (A ++ d1 ++ d2 ++ [PV.sl tk3 (Ty.size (.list .int)) xs3] ++ (c4 ++ (c5 ++ (cs ++ B)))) (off + 2) 1 d = A ++ d1 ++ d2 ++ d ++ (c4 ++ (c5 ++ (cs ++ B))) := fun d => spl_mid' rfl a3 rfl
  generalize A ++ d1 ++ d2 ++ [PV.sl tk3 (Ty.size (.list .int)) xs3] ++ (c4 ++ (c5 ++ (cs ++ B))) = C3 at g2 e3 z3 u3
  simp only [wkB, wkC, kernP, rd, rds, reduceIte, Nat.reduceEqDiff, Nat.reduceAdd, binop, intOp_mul, unop, shiftOp, strOp, isNil, fillElems, fillParts, elemZero, FQ, LeaveA, resA, resPV, resPVs, PV.fits, PV.flat, PV.leaf, Nat.reduceBEq, Nat.reduceLT, Nat.reduceLeDiff, Int.reduceLT, Int.reduceLE, Int.reduceToNat, vis_len, vis_take, gb2, g2, e3, Nat.add_zero, Nat.add_assoc]
  refine list_ok (T := (.list .int)) (bs := []) (fn72.of_erase rfl) (fn142.of_erase rfl) (by decide) (EachOk.of_vis ints_ok m k0) S2.vs (fun c hc => by simp at hc) hx3 p3 ?_
  intro ys3 ν3 L3 r3 s3
  have n3 : ν3 i = some (.cells C3) := by rw [s3.fr i h1 (fun h => h) (by rw [g2]; simp), g2]
  have m3 : ν3 b = some (.cells (vis m k0)) := by rw [s3.fr b hbk (fun h => h) (by rw [gb2]; simp), gb2]
  simp only [wkB, wkC, kernP, rd, rds, reduceIte, Nat.reduceEqDiff, Nat.reduceAdd, binop, intOp_mul, unop, shiftOp, strOp, isNil, fillElems, fillParts, elemZero, FQ, LeaveA, resA, resPV, resPVs, PV.fits, PV.flat, PV.leaf, Nat.reduceBEq, Nat.reduceLT, Nat.reduceLeDiff, Int.reduceLT, Int.reduceLE, Int.reduceToNat, n3, z3, u3, Nat.add_zero, Nat.add_assoc]
  obtain ⟨d3, hd3⟩ : ∃ d, d = [PV.sl .no (Ty.size (.list .int)) ys3] := ⟨_, rfl⟩
  have o3 : Rep (.list (.list .int)) d3 y3 := hd3 ▸ ⟨.no, ys3, rfl, r3⟩
  rw [← hd3]
  have S3 : VStep m k0 (· = i) ws ws3 μ0 L (ν3.set i (.cells (A ++ d1 ++ d2 ++ d3 ++ (c4 ++ (c5 ++ (cs ++ B)))))) L3 := S2.trans (s3.putAt h1)
  have g3 : (ν3.set i (.cells (A ++ d1 ++ d2 ++ d3 ++ (c4 ++ (c5 ++ (cs ++ B)))))) i = some (.cells (A ++ d1 ++ d2 ++ d3 ++ (c4 ++ (c5 ++ (cs ++ B))))) := set_same
  have gb3 : (ν3.set i (.cells (A ++ d1 ++ d2 ++ d3 ++ (c4 ++ (c5 ++ (cs ++ B)))))) b = some (.cells (vis m k0)) := by simp only [Mem.set, hib.symm, if_false]; exact m3
  generalize ν3.set i (.cells (A ++ d1 ++ d2 ++ d3 ++ (c4 ++ (c5 ++ (cs ++ B))))) = μ3 at S3 g3 gb3 ⊢
  have l3 : d3.length = 1 := o3.length
  replace g3 := cells_eq g3 (Y := A ++ d1 ++ d2 ++ d3 ++ c4 ++ (c5 ++ (cs ++ B))) (by simp only [List.append_assoc])
  -- field 4
  have a4 : (A ++ d1 ++ d2 ++ d3).length = off + 3 := by first | omega | (simp only [List.length_append]; omega)
  refine aw_draw (by decide) (fun _ _ _ h => h) ?_
  obtain ⟨tk4, xs4, rfl, hx4⟩ := q4
  have e4 := get_mid (cs := A ++ d1 ++ d2 ++ d3 ++ [PV.sl tk4 (Ty.size TRef) xs4] ++ (c5 ++ (cs ++ B))) rfl a4
  have z4 : off + 3 + 1 ≤ (A ++ d1 ++ d2 ++ d3 ++ [PV.sl tk4 (Ty.size TRef) xs4] ++ (c5 ++ (cs ++ B))).length := by simp only [List.length_append, List.length_cons, List.length_nil] at a4 ⊢; omega
  have u4 : ∀ d, spl (A ++ d1 ++ d2 ++ d3 ++ [PV.sl tk4 (Ty.size TRef) xs4] ++ (c5 ++ (cs ++ B))) (off + 3) 1 d = A ++ d1 ++ d2 ++ d3 ++ d ++ (c5 ++ (cs ++ B)) := fun d => spl_mid' rfl a4 rfl
  generalize A ++ d1 ++ d2 ++ d3 ++ [PV.sl tk4 (Ty.size TRef) xs4] ++ (c5 ++ (cs ++ B)) = C4 at g3 e4 z4 u4
  simp only [wkB, wkC, kernP, rd, rds, reduceIte, Nat.reduceEqDiff, Nat.reduceAdd, binop, intOp_mul, unop, shiftOp, strOp, isNil, fillElems, fillParts, elemZero, FQ, LeaveA, resA, resPV, resPVs, PV.fits, PV.flat, PV.leaf, Nat.reduceBEq, Nat.reduceLT, Nat.reduceLeDiff, Int.reduceLT, Int.reduceLE, Int.reduceToNat, vis_len, vis_take, gb3, g3, e4, Nat.add_zero, Nat.add_assoc]
  refine list_ok (T := TRef) (bs := [b]) (fn73.of_erase rfl) (fn143.of_erase rfl) (by decide) (ref_ok m k0 b) S3.vs (fun c hc => by simp at hc; subst hc; exact ⟨hbk, gb3⟩) hx4 p4 ?_
  intro ys4 ν4 L4 r4 s4
  have n4 : ν4 i = some (.cells C4) := by rw [s4.fr i h1 (fun h => h) (by rw [g3]; simp), g3]
  have m4 : ν4 b = some (.cells (vis m k0)) := by rw [s4.fr b hbk (fun h => h) (by rw [gb3]; simp), gb3]
  simp only [wkB, wkC, kernP, rd, rds, reduceIte, Nat.reduceEqDiff, Nat.reduceAdd, binop, intOp_mul, unop, shiftOp, strOp, isNil, fillElems, fillParts, elemZero, FQ, LeaveA, resA, resPV, resPVs, PV.fits, PV.flat, PV.leaf, Nat.reduceBEq, Nat.reduceLT, Nat.reduceLeDiff, Int.reduceLT, Int.reduceLE, Int.reduceToNat, n4, z4, u4, Nat.add_zero, Nat.add_assoc]
  obtain ⟨d4, hd4⟩ : ∃ d, d = [PV.sl .no (Ty.size TRef) ys4] := ⟨_, rfl⟩
  have o4 : Rep (.list TRef) d4 y4 := hd4 ▸ ⟨.no, ys4, rfl, r4⟩
  rw [← hd4]
  have S4 : VStep m k0 (· = i) ws ws4 μ0 L (ν4.set i (.cells (A ++ d1 ++ d2 ++ d3 ++ d4 ++ (c5 ++ (cs ++ B))))) L4 := S3.trans (s4.putAt h1)
  have g4 : (ν4.set i (.cells (A ++ d1 ++ d2 ++ d3 ++ d4 ++ (c5 ++ (cs ++ B))))) i = some (.cells (A ++ d1 ++ d2 ++ d3 ++ d4 ++ (c5 ++ (cs ++ B)))) := set_same
  have gb4 : (ν4.set i (.cells (A ++ d1 ++ d2 ++ d3 ++ d4 ++ (c5 ++ (cs ++ B))))) b = some (.cells (vis m k0)) := by simp only [Mem.set, hib.symm, if_false]; exact m4
  generalize ν4.set i (.cells (A ++ d1 ++ d2 ++ d3 ++ d4 ++ (c5 ++ (cs ++ B)))) = μ4 at S4 g4 gb4 ⊢
  have l4 : d4.length = 1 := o4.length
  replace g4 := cells_eq g4 (Y := A ++ d1 ++ d2 ++ d3 ++ d4 ++ c5 ++ (cs ++ B)) (by simp only [List.append_assoc])
  -- field 5
  have a5 : (A ++ d1 ++ d2 ++ d3 ++ d4).length = off + 4 := by first | omega | (simp only [List.length_append]; omega)
  refine aw_draw (by decide) (fun _ _ _ h => h) ?_
  simp only [wkB, wkC, kernP, rd, rds, reduceIte, Nat.reduceEqDiff, Nat.reduceAdd, binop, intOp_mul, unop, shiftOp, strOp, isNil, fillElems, fillParts, elemZero, FQ, LeaveA, resA, resPV, resPVs, PV.fits, PV.flat, PV.leaf, Nat.reduceBEq, Nat.reduceLT, Nat.reduceLeDiff, Int.reduceLT, Int.reduceLE, Int.reduceToNat, vis_len, vis_take, gb4, Nat.add_zero, Nat.add_assoc]
  refine ints_ok m k0 i _ (A ++ d1 ++ d2 ++ d3 ++ d4) c5 (cs ++ B) _ _ _ _ _ _ _ _ h1 g4 a5 q5 S4.vs p5 ?_
  intro d5 μ5 L5 o5 g5 s5
  have S5 := S4.trans s5
  have gb5 : μ5 b = some (.cells (vis m k0)) := by rw [s5.fr b hbk (fun h => hib h.symm) (by rw [gb4]; simp), gb4]
  simp only [wkB, wkC, kernP, rd, rds, reduceIte, Nat.reduceEqDiff, Nat.reduceAdd, binop, intOp_mul, unop, shiftOp, strOp, isNil, fillElems, fillParts, elemZero, FQ, LeaveA, resA, resPV, resPVs, PV.fits, PV.flat, PV.leaf, Nat.reduceBEq, Nat.reduceLT, Nat.reduceLeDiff, Int.reduceLT, Int.reduceLE, Int.reduceToNat]
  have l5 : d5.length = 1 := o5.length
  replace g5 := cells_eq g5 (Y := A ++ d1 ++ d2 ++ d3 ++ d4 ++ d5 ++ cs ++ B) (by simp only [List.append_assoc])
  -- field 6
  have a6 : (A ++ d1 ++ d2 ++ d3 ++ d4 ++ d5).length = off + 5 := by first | omega | (simp only [List.length_append]; omega)
  refine aw_draw (by decide) (fun _ _ _ h => h) ?_
  simp only [wkB, wkC, kernP, rd, rds, reduceIte, Nat.reduceEqDiff, Nat.reduceAdd, binop, intOp_mul, unop, shiftOp, strOp, isNil, fillElems, fillParts, elemZero, FQ, LeaveA, resA, resPV, resPVs, PV.fits, PV.flat, PV.leaf, Nat.reduceBEq, Nat.reduceLT, Nat.reduceLeDiff, Int.reduceLT, Int.reduceLE, Int.reduceToNat, vis_len, vis_take, gb5, Nat.add_zero, Nat.add_assoc]
  refine nums_ok (n := 2) (off := off + 5) (A := A ++ d1 ++ d2 ++ d3 ++ d4 ++ d5) (B := B) h1 g5 a6 h5 (by decide) S5.vs H5 ?_
  intro d6 μ6 L6 o6 g6 s6
  have S6 := S5.trans s6
  have gb6 : μ6 b = some (.cells (vis m k0)) := by rw [s6.fr b hbk (fun h => hib h.symm) (by rw [gb5]; simp), gb5]
  simp only [wkB, wkC, kernP, rd, rds, reduceIte, Nat.reduceEqDiff, Nat.reduceAdd, binop, intOp_mul, unop, shiftOp, strOp, isNil, fillElems, fillParts, elemZero, FQ, LeaveA, resA, resPV, resPVs, PV.fits, PV.flat, PV.leaf, Nat.reduceBEq, Nat.reduceLT, Nat.reduceLeDiff, Int.reduceLT, Int.reduceLE, Int.reduceToNat]
  have l6 : d6.length = 3 := o6.length
  exact ⟨_, rfl, hK _ _ _ ⟨_, _, rfl, o1, ⟨_, _, rfl, o2, ⟨_, _, rfl, o3, ⟨_, _, rfl, o4, ⟨_, _, rfl, o5, o6⟩⟩⟩⟩⟩ (cells_eq g6 (by simp only [List.append_assoc])) (hS S6)⟩

end Go.Bm

/- slices.Chunk of bytes; slices.Clone of bytes that are written. -/
namespace Go.Bm
open Go Go.Proofs

theorem chunk_ok {j n : Nat} {μ : Mem} {L : Lv} {K KP : KA} (hK : ∀ b1 b2, Fresh μ L b1 → Fresh (μ.set b1 (.cells [.slv j 0 n 1])) L b2 → K (.fn 202 [] [.ptr b1 0, .ptr b2 0]) ((μ.set b1 (.cells [.slv j 0 n 1])).set b2 (.cells [.int .i64 8])) L) :
    ACall Tryz.prog 138 [.slv j 0 n 1, .int .i64 8] μ L K KP := by
  refine acall_of_aw mix fn138 (by simp) ?_
  unfold ac138
  simp only [wkB, wkC, kernP, rd, rds, reduceIte, Nat.reduceEqDiff, Nat.reduceAdd, binop, intOp_mul, unop, shiftOp, strOp, isNil, fillElems, fillParts, elemZero, FQ, LeaveA, resA, resPV, resPVs, PV.fits, PV.flat, PV.leaf, Nat.reduceBEq, Nat.reduceLT, Nat.reduceLeDiff, Int.reduceLT, Int.reduceLE, Int.reduceToNat]
  intro b1 h1 b2 h2
  exact ⟨_, rfl, hK b1 b2 h1 h2⟩

theorem AYield.mono {P : Program} {i : Nat} {xs : List PV} {μ : Mem} {L : Lv} {K K' : KA} (h : AYield P i xs μ L K) (hK : ∀ v μ L, K v μ L → K' v μ L) : AYield P i xs μ L K' :=
  callA_mono (P := P) (f := .yld i) (KP := fun _ _ _ => False) (KP' := fun _ _ _ => False) h hK (fun _ _ _ h => h)

theorem chunkf_ok {iy b1 b2 j n : Nat} {μ : Mem} {L : Lv} {K KP : KA} (Inv : Nat → Mem → Lv → Prop) (hInv : ∀ k μ L, Inv k μ L → μ b1 = some (.cells [.slv j 0 n 1]) ∧ μ b2 = some (.cells [.int .i64 8])) (h0 : Inv 0 μ L) (hn : n < 1152921504606846976)
    (hstep : ∀ k μ L, 8 * k < n → Inv k μ L → AYield Tryz.prog iy [.slv j (8 * k) (min 8 (n - 8 * k)) 1] μ L (fun r μ' L' => r = .bool true ∧ Inv (k + 1) μ' L'))
    (hK : ∀ k μ' L', n ≤ 8 * k → 8 * k < n + 8 → Inv k μ' L' → K (.tup []) μ' L') : ACall Tryz.prog 202 [.yld iy, .ptr b1 0, .ptr b2 0] μ L K KP := by
  refine acall_of_aw mix fn202 (by simp) ?_
  unfold ac202
  simp only [wkB, wkC, kernP, rd, rds, reduceIte, Nat.reduceEqDiff, Nat.reduceAdd, binop, intOp_mul, unop, shiftOp, strOp, isNil, fillElems, fillParts, elemZero, FQ, LeaveA, resA, resPV, resPVs, PV.fits, PV.flat, PV.leaf, Nat.reduceBEq, Nat.reduceLT, Nat.reduceLeDiff, Int.reduceLT, Int.reduceLE, Int.reduceToNat]
  refine aw_loop (fun m σ => ∃ k, m = n + 8 - 8 * k ∧ 8 * k < n + 8 ∧ Inv k σ.μ σ.L ∧ σ.t 0 = .yld iy ∧ σ.t 1 = .ptr b1 0 ∧ σ.t 2 = .ptr b2 0 ∧ σ.t 4 = .int .i64 ((8 * k : Nat) : Int) ∧ σ.df = []) (n + 8) ⟨0, by omega, by omega, h0, ?_⟩ ?_
  · simp only [wkB, wkC, kernP, rd, rds, reduceIte, Nat.reduceEqDiff, Nat.reduceAdd, binop, intOp_mul, unop, shiftOp, strOp, isNil, fillElems, fillParts, elemZero, FQ, LeaveA, resA, resPV, resPVs, PV.fits, PV.flat, PV.leaf, Nat.reduceBEq, Nat.reduceLT, Nat.reduceLeDiff, Int.reduceLT, Int.reduceLE, Int.reduceToNat]
    rfl
  · rintro m ⟨t, μ, L, df⟩ ⟨k, rfl, hk, hi, t0, t1, t2, t4, hdf⟩
    simp only at hi t0 t1 t2 t4 hdf
    subst hdf
    obtain ⟨m1, m2⟩ := hInv _ _ _ hi
    by_cases hlt : 8 * k < n
    · have e1 : decide (((8 * k : Nat) : Int) < (n : Int)) = true := by simp only [decide_eq_true_eq]; omega
      simp only [wkB, wkC, kernP, rd, rds, reduceIte, Nat.reduceEqDiff, Nat.reduceAdd, binop, intOp_mul, unop, shiftOp, strOp, isNil, fillElems, fillParts, elemZero, FQ, LeaveA, resA, resPV, resPVs, PV.fits, PV.flat, PV.leaf, Nat.reduceBEq, Nat.reduceLT, Nat.reduceLeDiff, Int.reduceLT, Int.reduceLE, Int.reduceToNat, t0, t1, t2, t4, m1, m2, e1]
      refine aw_draw (by decide) (fun _ _ _ h => h) ?_
      have e2 : (0 : Int) ≤ ((8 * k : Nat) : Int) := by omega
      have e3 : ((8 * k : Nat) : Int) ≤ (n : Int) := by omega
      have e4 : (if (((n - 8 * k : Nat) : Int)) < 8 then ((n - 8 * k : Nat) : Int) else 8) = ((min 8 (n - 8 * k) : Nat) : Int) := by
        split <;> omega
      have e5 : IntKind.wrap .i64 (((8 * k : Nat) : Int) + ((min 8 (n - 8 * k) : Nat) : Int)) = ((8 * k + min 8 (n - 8 * k) : Nat) : Int) := by rw [IntWalk.i64_in _ (by omega)]; omega
      have e6 : (0 : Int) ≤ ((8 * k + min 8 (n - 8 * k) : Nat) : Int) := by omega
      have e7 : ((8 * k + min 8 (n - 8 * k) : Nat) : Int) ≤ (n : Int) := by omega
      have e8 : ((8 * k : Nat) : Int) ≤ ((8 * k + min 8 (n - 8 * k) : Nat) : Int) := by omega
      simp only [wkB, wkC, kernP, rd, rds, reduceIte, Nat.reduceEqDiff, Nat.reduceAdd, binop, intOp_mul, unop, shiftOp, strOp, isNil, fillElems, fillParts, elemZero, FQ, LeaveA, resA, resPV, resPVs, PV.fits, PV.flat, PV.leaf, Nat.reduceBEq, Nat.reduceLT, Nat.reduceLeDiff, Int.reduceLT, Int.reduceLE, Int.reduceToNat, t0, t1, t2, t4, m1, m2, boundsOf, hiOf, maxOk, e2, e3, e4, e5, e6, e7, e8, Nat.mul_one, Nat.add_sub_cancel_left]
      refine (hstep k μ L hlt hi).mono ?_
      rintro _ μ2 L2 ⟨rfl, hi2⟩
      obtain ⟨n1, n2⟩ := hInv _ _ _ hi2
      have e9 : IntKind.wrap .i64 (((8 * k : Nat) : Int) + 8) = ((8 * (k + 1) : Nat) : Int) := by rw [IntWalk.i64_in _ (by omega)]; omega
      simp only [wkB, wkC, kernP, rd, rds, reduceIte, Nat.reduceEqDiff, Nat.reduceAdd, binop, intOp_mul, unop, shiftOp, strOp, isNil, fillElems, fillParts, elemZero, FQ, LeaveA, resA, resPV, resPVs, PV.fits, PV.flat, PV.leaf, Nat.reduceBEq, Nat.reduceLT, Nat.reduceLeDiff, Int.reduceLT, Int.reduceLE, Int.reduceToNat, t0, t1, t2, t4, n1, n2, e9]
      exact ⟨_, by omega, k + 1, rfl, by omega, hi2, by simp⟩
    · have e1 : decide (((8 * k : Nat) : Int) < (n : Int)) = false := by simp only [decide_eq_false_iff_not]; omega
      simp only [wkB, wkC, kernP, rd, rds, reduceIte, Nat.reduceEqDiff, Nat.reduceAdd, binop, intOp_mul, unop, shiftOp, strOp, isNil, fillElems, fillParts, elemZero, FQ, LeaveA, resA, resPV, resPVs, PV.fits, PV.flat, PV.leaf, Nat.reduceBEq, Nat.reduceLT, Nat.reduceLeDiff, Int.reduceLT, Int.reduceLE, Int.reduceToNat, t0, t1, t2, t4, m1, m2, e1]
      exact ⟨_, rfl, hK k μ L (by omega) hk hi⟩

abbrev byts (l : List Int) : List PV := l.map (PV.int .u8)

theorem flats_byts (l : List Int) : flats (byts l) = byts l := by
  induction l with
  | nil => rfl
  | cons x l ih => simp only [byts, List.map_cons, flats_cons, PV.flat] at ih ⊢; rw [ih]; rfl

theorem cloneb_ok {x : PV} {l : List Int} {μ : Mem} {L : Lv} {K KP : KA} (hx : (∃ tk, x = .sl tk 1 (byts l)) ∨ ∃ j, x = .slv j 0 l.length 1 ∧ μ j = some (.cells (byts l))) (hb : l.length ≤ 140737488355328)
    (hK : ∀ j, Fresh μ L j → K (.slv j 0 l.length 1) (μ.set j (.cells (byts l))) L) : ACall Tryz.prog 21 [x] μ L K KP := by
  have hf : FnIs Tryz.prog 21 8 (acClone false 1 1 [.int .u8 0]) [.tmp 2] := fn21.of_erase rfl
  rcases hx with ⟨tk, rfl⟩ | ⟨j0, rfl, hj0⟩
  · refine clone_ok hf (by simp; omega) ?_
    intro j hj
    rw [flats_byts, List.length_map]
    exact hK j hj
  · refine acall_of_aw mix hf (by simp) ?_
    unfold acClone
    simp only [wkB, wkC, kernP, rd, rds, reduceIte, Nat.reduceEqDiff, Nat.reduceAdd, binop, intOp_mul, unop, shiftOp, strOp, isNil, fillElems, fillParts, elemZero, FQ, LeaveA, resA, resPV, resPVs, PV.fits, PV.flat, PV.leaf, Nat.reduceBEq, Nat.reduceLT, Nat.reduceLeDiff, Int.reduceLT, Int.reduceLE, Int.reduceToNat]
    simp only [opM, rd, upd_app, reduceIte]
    intro b hb'
    simp only [wkB, wkC, kernP, rd, rds, reduceIte, Nat.reduceEqDiff, Nat.reduceAdd, binop, intOp_mul, unop, shiftOp, strOp, isNil, fillElems, fillParts, elemZero, FQ, LeaveA, resA, resPV, resPVs, PV.fits, PV.flat, PV.leaf, Nat.reduceBEq, Nat.reduceLT, Nat.reduceLeDiff, Int.reduceLT, Int.reduceLE, Int.reduceToNat]
    cases b with
    | true =>
      have e : l = [] := by
        cases l with
        | nil => rfl
        | cons x xs => have := hb' (by simp); cases this
      subst e
      simp only [wkB, wkC, kernP, rd, rds, reduceIte, Nat.reduceEqDiff, Nat.reduceAdd, binop, intOp_mul, unop, shiftOp, strOp, isNil, fillElems, fillParts, elemZero, FQ, LeaveA, resA, resPV, resPVs, PV.fits, PV.flat, PV.leaf, Nat.reduceBEq, Nat.reduceLT, Nat.reduceLeDiff, Int.reduceLT, Int.reduceLE, Int.reduceToNat]
      refine gho_intro (GhoS.bind' (GhoS.empty fun j hj => GhoS.slots (t' := upd (fun _ => .junk) 2 (.slv j 0 0 1)) ?_ ?_))
      · intro n
        simp only [upd_app]
        split
        · exact Wk.emptyv j 0
        · exact Wk.junk _
      · simp only [wkB, wkC, kernP, rd, rds, reduceIte, Nat.reduceEqDiff, Nat.reduceAdd, binop, intOp_mul, unop, shiftOp, strOp, isNil, fillElems, fillParts, elemZero, FQ, LeaveA, resA, resPV, resPVs, PV.fits, PV.flat, PV.leaf, Nat.reduceBEq, Nat.reduceLT, Nat.reduceLeDiff, Int.reduceLT, Int.reduceLE, Int.reduceToNat]
        exact ⟨_, rfl, hK j hj⟩
    | false =>
      simp only [wkB, wkC, kernP, rd, rds, reduceIte, Nat.reduceEqDiff, Nat.reduceAdd, binop, intOp_mul, unop, shiftOp, strOp, isNil, fillElems, fillParts, elemZero, FQ, LeaveA, resA, resPV, resPVs, PV.fits, PV.flat, PV.leaf, Nat.reduceBEq, Nat.reduceLT, Nat.reduceLeDiff, Int.reduceLT, Int.reduceLE, Int.reduceToNat]
      simp only [opM, rd, upd_app, reduceIte, Nat.reduceEqDiff]
      refine ⟨byts l, ⟨rfl, by simp, by intro y hy; simp only [byts, List.mem_map] at hy; obtain ⟨z, _, rfl⟩ := hy; rfl, byts l, hj0, by simp, ?_⟩, trivial, by unfold fitsMem; simp; omega, .inr ⟨trivial, .inl trivial, ?_⟩⟩
      · rw [flats_byts, List.drop_zero, List.take_of_length_le (by simp)]
      · intro j hj
        simp only [wkB, wkC, kernP, rd, rds, reduceIte, Nat.reduceEqDiff, Nat.reduceAdd, binop, intOp_mul, unop, shiftOp, strOp, isNil, fillElems, fillParts, elemZero, FQ, LeaveA, resA, resPV, resPVs, PV.fits, PV.flat, PV.leaf, Nat.reduceBEq, Nat.reduceLT, Nat.reduceLeDiff, Int.reduceLT, Int.reduceLE, Int.reduceToNat]
        rw [flats_byts, List.length_map]
        exact ⟨_, rfl, hK j hj⟩

end Go.Bm

/- Visitors: bytes. -/
namespace Go.Bm
open Go Go.Proofs

/-- A round of the range over the chunks. -/
def acRb : ACode := .block 1 (.seq
  (.reg false [.mk (some 7) none (.mv (.k (.int .u64 0))) []]) (.seq (.seq
  (.reg false [.mk (some 46) none (.mv (.t 6)) [], .mk (some 47) none (.len (.t 46)) [], .mk (some 48) none (.mv (.k (.int .i64 0))) []])
  (.block 2
  (.loop (.seq
  (.reg false [.mk (some 49) none (.bin .lss (.t 48) (.t 47)) []]) (.seq
  (.cond (.t 49) .skip (.exit 2)) (.seq
  (.block 3 (.seq
  (.reg false [.mk (some 50) none (.mv (.t 48)) [], .mk (some 51) none (.iaddr 1 (.t 46) (.t 48)) [], .mk (some 52) none (.load none (.t 51)) [], .mk (some 8) none (.mv (.t 50)) [], .mk (some 9) none (.mv (.t 52)) []])
  (.reg false [.mk (some 53) none (.mv (.t 7)) [], .mk (some 54) none (.mv (.t 9)) [], .mk (some 55) none (.conv .u64 (.t 54)) [], .mk (some 56) none (.mv (.t 8)) [], .mk (some 57) none (.bin .mul (.k (.int .i64 8)) (.t 56)) [], .mk (some 58) none (.bin .shl (.t 55) (.t 57)) [], .mk (some 59) none (.bin .or (.t 53) (.t 58)) [], .mk (some 7) none (.mv (.t 59)) []])))
  (.reg false [.mk (some 60) none (.bin .add (.t 48) (.k (.int .i64 1))) [], .mk (some 48) none (.mv (.t 60)) []]))))))) (.seq
  (.reg false [.mk (some 61) none (.faddr (.t 2) 0) [], .mk (some 62) none (.load none (.t 61)) [], .mk (some 63) none (.mv (.t 7)) [], .mk (some 64) none (.conv .i64 (.t 63)) [], .mk (some 65) none (.call (.t 62) [.t 64]) [], .mk (some 66) none (.conv .u64 (.t 65)) [], .mk (some 7) none (.mv (.t 66)) []]) (.seq (.seq
  (.reg false [.mk (some 67) none (.mv (.t 6)) [], .mk (some 68) none (.len (.t 67)) [], .mk (some 69) none (.mv (.k (.int .i64 0))) []])
  (.block 4
  (.loop (.seq
  (.reg false [.mk (some 70) none (.bin .lss (.t 69) (.t 68)) []]) (.seq
  (.cond (.t 70) .skip (.exit 4)) (.seq
  (.block 5 (.seq
  (.reg false [.mk (some 71) none (.mv (.t 69)) [], .mk (some 10) none (.mv (.t 71)) []])
  (.reg false [.mk (some 72) none (.mv (.t 6)) [], .mk (some 73) none (.mv (.t 10)) [], .mk (some 74) none (.mv (.t 7)) [], .mk (some 75) none (.mv (.t 10)) [], .mk (some 76) none (.bin .mul (.k (.int .i64 8)) (.t 75)) [], .mk (some 77) none (.bin .shr (.t 74) (.t 76)) [], .mk (some 78) none (.conv .u8 (.t 77)) [], .mk (some 79) none (.iaddr 1 (.t 72) (.t 73)) [], .mk none none (.store 1 (.t 79) (.t 78)) []])))
  (.reg false [.mk (some 80) none (.bin .add (.t 69) (.k (.int .i64 1))) [], .mk (some 69) none (.mv (.t 80)) []])))))))
  (.reg false [.mk (some 81) none (.mv (.t 6)) [], .mk (some 82) none (.len (.t 81)) [], .mk (some 83) none (.bin .eql (.t 82) (.k (.int .i64 8))) [], .mk (some 84) none (.mv (.t 83)) [], .mk (some 85) (some (some 84, false)) (.mv (.t 7)) [], .mk (some 86) (some (some 84, false)) (.mv (.t 6)) [], .mk (some 87) (some (some 84, false)) (.len (.t 86)) [], .mk (some 88) (some (some 84, false)) (.bin .mul (.k (.int .i64 8)) (.t 87)) [], .mk (some 89) (some (some 84, false)) (.bin .shr (.t 85) (.t 88)) [], .mk (some 90) (some (some 84, false)) (.bin .eql (.t 89) (.k (.int .u64 0))) [], .mk (some 91) none (.pick (.t 84) (.k (.bool true)) (.t 90)) [], .mk (some 92) none (.call (.k (.fn 67 [] [])) [.t 91]) []])))))

theorem visitC_spec {m : Md} {c zb : List Int} {ws ws' : List Int} (h : visitC m c ws = some (zb, ws')) : ∃ r, m.num (IntKind.wrap .i64 (packR c c.length)) ws = some (r, ws') ∧ zb = unpack (IntKind.wrap .u64 r) c.length ∧
    (c.length = 8 ∨ (IntKind.wrap .u64 r).fdiv (2 ^ (min (8 * c.length) IntKind.u64.bits)) = 0) := by
  simp only [visitC] at h
  split at h
  · cases h
  · rename_i r ws1 h1
    split at h
    · rename_i h2
      simp only [Option.some.injEq, Prod.mk.injEq] at h
      obtain ⟨rfl, rfl⟩ := h
      exact ⟨r, h1, rfl, h2⟩
    · cases h

theorem unpack_take (x : Int) (n k : Nat) (h : k < n) : (unpack x n).take (k + 1) = (unpack x n).take k ++ [IntKind.wrap .u8 (x.fdiv (2 ^ (min (8 * k) IntKind.u64.bits)))] := by
  have hl : k < (unpack x n).length := by simp [unpack, h]
  rw [List.take_add_one, List.getElem?_eq_getElem hl, Option.toList_some]
  simp [unpack]

theorem round_ok {m : Md} {k0 j o b : Nat} {X Y : List PV} {cb zb ws ws' : List Int} {t : Regs} {μ : Mem} {L : Lv} {Q : AEx → St → Prop} (hjk : j ≠ k0) (hbk : b ≠ k0) (hbj : b ≠ j) (hc8 : cb.length ≤ 8) (t6 : t 6 = .slv j o cb.length 1) (t2 : t 2 = .ptr b 0)
    (hb : μ b = some (.cells (vis m k0))) (hj : μ j = some (.cells (X ++ byts cb ++ Y))) (hX : X.length = o) (h : VS m k0 ws μ L) (hv : visitC m cb ws = some (zb, ws'))
    (hQ : ∀ t' μ' L', μ' j = some (.cells (X ++ byts zb ++ Y)) → VStep m k0 (· = j) ws ws' μ L μ' L' → Q .normal ⟨t', μ', L', []⟩) : AW Tryz.prog acRb Q ⟨t, μ, L, []⟩ := by
  obtain ⟨r, hn, hz, hfin⟩ := visitC_spec hv
  have ev := vis_num m k0
  unfold acRb
  simp only [wkB, wkC, kernP, rd, rds, reduceIte, Nat.reduceEqDiff, Nat.reduceAdd, binop, intOp_mul, unop, shiftOp, strOp, isNil, fillElems, fillParts, elemZero, FQ, LeaveA, resA, resPV, resPVs, PV.fits, PV.flat, PV.leaf, Nat.reduceBEq, Nat.reduceLT, Nat.reduceLeDiff, Int.reduceLT, Int.reduceLE, Int.reduceToNat, t6, t2]
  refine aw_for cb.length (fun k t μ' L' df => t 7 = .int .u64 (packR cb k) ∧ t 46 = .slv j o cb.length 1 ∧ t 47 = .int .i64 cb.length ∧ t 48 = .int .i64 k ∧ t 6 = .slv j o cb.length 1 ∧ t 2 = .ptr b 0 ∧ μ' = μ ∧ L' = L ∧ df = []) (by omega) ?_ ?_ ?_ ?_ (by decide)
  · rintro k t μ' L' df ⟨t7, t46, t47, t48, t6, t2, rfl, rfl, rfl⟩
    exact ⟨t48, t47⟩
  · simp only [wkB, wkC, kernP, rd, rds, reduceIte, Nat.reduceEqDiff, Nat.reduceAdd, binop, intOp_mul, unop, shiftOp, strOp, isNil, fillElems, fillParts, elemZero, FQ, LeaveA, resA, resPV, resPVs, PV.fits, PV.flat, PV.leaf, Nat.reduceBEq, Nat.reduceLT, Nat.reduceLeDiff, Int.reduceLT, Int.reduceLE, Int.reduceToNat, t6, t2, packR]
    rfl
  · rintro t μ' L' df ⟨t7, t46, t47, t48, t6, t2, rfl, rfl, rfl⟩
    simp only [wkB, wkC, kernP, rd, rds, reduceIte, Nat.reduceEqDiff, Nat.reduceAdd, binop, intOp_mul, unop, shiftOp, strOp, isNil, fillElems, fillParts, elemZero, FQ, LeaveA, resA, resPV, resPVs, PV.fits, PV.flat, PV.leaf, Nat.reduceBEq, Nat.reduceLT, Nat.reduceLeDiff, Int.reduceLT, Int.reduceLE, Int.reduceToNat, t7, t46, t47, t48, t6, t2, hb, ev, Nat.add_zero]
    refine num_ok h hn ?_
    intro μ1 L1 s1
    have gj : μ1 j = some (.cells (X ++ byts cb ++ Y)) := by rw [s1.fr j hjk (fun h => h) (by rw [hj]; simp), hj]
    simp only [wkB, wkC, kernP, rd, rds, reduceIte, Nat.reduceEqDiff, Nat.reduceAdd, binop, intOp_mul, unop, shiftOp, strOp, isNil, fillElems, fillParts, elemZero, FQ, LeaveA, resA, resPV, resPVs, PV.fits, PV.flat, PV.leaf, Nat.reduceBEq, Nat.reduceLT, Nat.reduceLeDiff, Int.reduceLT, Int.reduceLE, Int.reduceToNat, t7, t46, t47, t48, t6, t2]
    have hzl : zb.length = cb.length := by rw [hz]; simp [unpack]
    refine aw_for cb.length (fun k t μ2 L2 df => t 7 = .int .u64 (IntKind.wrap .u64 r) ∧ t 67 = .slv j o cb.length 1 ∧ t 68 = .int .i64 cb.length ∧ t 69 = .int .i64 k ∧ t 6 = .slv j o cb.length 1 ∧
      μ2 j = some (.cells (X ++ byts (zb.take k) ++ byts (cb.drop k) ++ Y)) ∧ VStep m k0 (· = j) ws ws' μ' L' μ2 L2 ∧ df = []) (by omega) ?_ ?_ ?_ ?_ (by decide)
    · rintro k t μ2 L2 df ⟨t7, t67, t68, t69, t6, g, hs, rfl⟩
      exact ⟨t69, t68⟩
    · simp only [wkB, wkC, kernP, rd, rds, reduceIte, Nat.reduceEqDiff, Nat.reduceAdd, binop, intOp_mul, unop, shiftOp, strOp, isNil, fillElems, fillParts, elemZero, FQ, LeaveA, resA, resPV, resPVs, PV.fits, PV.flat, PV.leaf, Nat.reduceBEq, Nat.reduceLT, Nat.reduceLeDiff, Int.reduceLT, Int.reduceLE, Int.reduceToNat, t6]
      refine ⟨rfl, gj, s1.weak (fun _ h => h.elim)⟩
    · rintro t μ2 L2 df ⟨t7, t67, t68, t69, t6, g, hs, rfl⟩
      have g' : μ2 j = some (.cells (X ++ byts zb ++ Y)) := by rw [g, ← hzl, List.take_length, hzl, List.drop_length]; simp
      by_cases h8 : cb.length = 8
      · have e1 : (((cb.length : Nat) : Int) == 8) = true := by rw [h8]; rfl
        simp only [wkB, wkC, kernP, rd, rds, reduceIte, Nat.reduceEqDiff, Nat.reduceAdd, binop, intOp_mul, unop, shiftOp, strOp, isNil, fillElems, fillParts, elemZero, FQ, LeaveA, resA, resPV, resPVs, PV.fits, PV.flat, PV.leaf, Nat.reduceBEq, Nat.reduceLT, Nat.reduceLeDiff, Int.reduceLT, Int.reduceLE, Int.reduceToNat, t7, t67, t68, t69, t6, e1]
        refine need_ok ?_
        simp only [wkB, wkC, kernP, rd, rds, reduceIte, Nat.reduceEqDiff, Nat.reduceAdd, binop, intOp_mul, unop, shiftOp, strOp, isNil, fillElems, fillParts, elemZero, FQ, LeaveA, resA, resPV, resPVs, PV.fits, PV.flat, PV.leaf, Nat.reduceBEq, Nat.reduceLT, Nat.reduceLeDiff, Int.reduceLT, Int.reduceLE, Int.reduceToNat]
        exact hQ _ _ _ g' hs
      · have e1 : (((cb.length : Nat) : Int) == 8) = false := by simp; omega
        have e2 : IntKind.wrap .i64 (8 * ((cb.length : Nat) : Int)) = ((8 * cb.length : Nat) : Int) := by rw [IntWalk.i64_in _ (by omega)]; rfl
        have e3 : ¬ ((8 * cb.length : Nat) : Int) < 0 := by omega
        have e4 := hfin.resolve_left h8
        simp only [wkB, wkC, kernP, rd, rds, reduceIte, Nat.reduceEqDiff, Nat.reduceAdd, binop, intOp_mul, unop, shiftOp, strOp, isNil, fillElems, fillParts, elemZero, FQ, LeaveA, resA, resPV, resPVs, PV.fits, PV.flat, PV.leaf, Nat.reduceBEq, Nat.reduceLT, Nat.reduceLeDiff, Int.reduceLT, Int.reduceLE, Int.reduceToNat, t7, t67, t68, t69, t6, e1, e2, e3, e4]
        refine need_ok ?_
        simp only [wkB, wkC, kernP, rd, rds, reduceIte, Nat.reduceEqDiff, Nat.reduceAdd, binop, intOp_mul, unop, shiftOp, strOp, isNil, fillElems, fillParts, elemZero, FQ, LeaveA, resA, resPV, resPVs, PV.fits, PV.flat, PV.leaf, Nat.reduceBEq, Nat.reduceLT, Nat.reduceLeDiff, Int.reduceLT, Int.reduceLE, Int.reduceToNat]
        exact hQ _ _ _ g' hs
    · rintro k t μ2 L2 df hk ⟨t7, t67, t68, t69, t6, g, hs, rfl⟩
      have e1 : (0 : Int) ≤ (k : Int) := by omega
      have e2 : (k : Int) < (cb.length : Int) := by omega
      have e4 : IntKind.wrap .i64 (8 * (k : Int)) = ((8 * k : Nat) : Int) := by rw [IntWalk.i64_in _ (by omega)]; rfl
      have e5 : ¬ ((8 * k : Nat) : Int) < 0 := by omega
      have hXl : (X ++ byts (zb.take k)).length = o + k := by simp [hX, hzl]; omega
      have hcs : X ++ byts (zb.take k) ++ byts (cb.drop k) ++ Y = (X ++ byts (zb.take k)) ++ [PV.int .u8 cb[k]] ++ (byts (cb.drop (k + 1)) ++ Y) := by
        rw [List.drop_eq_getElem_cons hk]; simp only [byts, List.map_cons, List.append_assoc, List.cons_append, List.nil_append]
      have e6 : o + k + 1 ≤ (X ++ byts (zb.take k) ++ byts (cb.drop k) ++ Y).length := by rw [hcs, List.length_append, List.length_append, hXl]; simp
      have e7 : ∀ d, spl (X ++ byts (zb.take k) ++ byts (cb.drop k) ++ Y) (o + k) 1 d = (X ++ byts (zb.take k)) ++ d ++ (byts (cb.drop (k + 1)) ++ Y) := fun d => spl_mid' hcs hXl rfl
      generalize X ++ byts (zb.take k) ++ byts (cb.drop k) ++ Y = C at g e6 e7
      simp only [wkB, wkC, kernP, rd, rds, reduceIte, Nat.reduceEqDiff, Nat.reduceAdd, binop, intOp_mul, unop, shiftOp, strOp, isNil, fillElems, fillParts, elemZero, FQ, LeaveA, resA, resPV, resPVs, PV.fits, PV.flat, PV.leaf, Nat.reduceBEq, Nat.reduceLT, Nat.reduceLeDiff, Int.reduceLT, Int.reduceLE, Int.reduceToNat, t7, t67, t68, t69, t6, e1, e2, e4, e5, g, e6, e7, Nat.mul_one]
      refine ⟨?_, hs.set hjk rfl⟩
      rw [hz, unpack_take _ _ _ hk]
      simp only [byts, List.map_append, List.map_cons, List.map_nil, List.append_assoc]
  · rintro k t μ' L' df hk ⟨t7, t46, t47, t48, t6, t2, rfl, rfl, rfl⟩
    have e1 : (0 : Int) ≤ (k : Int) := by omega
    have e2 : (k : Int) < (cb.length : Int) := by omega
    have e3 : (X ++ byts cb ++ Y)[o + k]? = some (.int .u8 (cb.getD k 0)) := by
      rw [List.append_assoc, List.getElem?_append_right (by omega), List.getElem?_append_left (by simp; omega)]
      simp [hX, hk]
    have e4 : IntKind.wrap .i64 (8 * (k : Int)) = ((8 * k : Nat) : Int) := by rw [IntWalk.i64_in _ (by omega)]; rfl
    have e5 : ¬ ((8 * k : Nat) : Int) < 0 := by omega
    generalize hC : X ++ byts cb ++ Y = C at hj e3
    simp only [wkB, wkC, kernP, rd, rds, reduceIte, Nat.reduceEqDiff, Nat.reduceAdd, binop, intOp_mul, unop, shiftOp, strOp, isNil, fillElems, fillParts, elemZero, FQ, LeaveA, resA, resPV, resPVs, PV.fits, PV.flat, PV.leaf, Nat.reduceBEq, Nat.reduceLT, Nat.reduceLeDiff, Int.reduceLT, Int.reduceLE, Int.reduceToNat, t7, t46, t47, t48, t6, t2, e1, e2, hj, e3, e4, e5, Nat.mul_one]
    rfl

noncomputable def acBytesR : ACode := .seq
  (.reg false [.mk (some 39) none (.mv (.t 1)) [], .mk (some 40) none (.nilck (.t 39)) [], .mk (some 41) none (.load none (.t 40)) [], .mk (some 42) none (.call (.k (.fn 21 [] [])) [.t 41]) [], .mk (some 5) none (.mv (.t 42)) []]) (.gseq (.seq
  (.reg false [.mk (some 43) none (.mv (.t 5)) [], .mk (some 44) none (.call (.k (.fn 138 [] [])) [.t 43, .k (.int .i64 8)]) []])
  (.block 0 (.rangeF 96 (.t 44) [45] (.reg false [.mk (some 6) none (.mv (.t 45)) []]) acRb (rfCodes Tryz.f63 0).1 (rfCodes Tryz.f63 0).2)))
  (.reg false [.mk (some 93) none (.mv (.t 1)) [], .mk (some 94) none (.mv (.t 5)) [], .mk (some 95) none (.nilck (.t 93)) [], .mk none none (.store 1 (.t 95) (.t 94)) []]))

noncomputable def acBytes : ACode := .seq
  (.reg false [.mk (some 2) none (.box 2 (.t 0)) []]) (.seq
  (.reg true [.mk (some 11) none (.faddr (.t 2) 0) [], .mk (some 12) none (.load none (.t 11)) [0], .mk (some 13) none (.mv (.t 1)) [], .mk (some 14) none (.nilck (.t 13)) [2], .mk (some 15) none (.load none (.t 14)) [3, 2], .mk (some 16) none (.len (.t 15)) [4, 3, 2], .mk (some 17) none (.call (.t 12) [.t 16]) [1, 5, 0, 4, 3, 2], .mk (some 4) none (.mv (.t 17)) [6, 1, 5, 0, 4, 3, 2]]) (.seq (.seq
  (.reg false [.mk (some 18) none (.mv (.t 4)) [], .mk (some 19) none (.mv (.t 1)) [], .mk (some 20) none (.nilck (.t 19)) [], .mk (some 21) none (.load none (.t 20)) [], .mk (some 22) none (.len (.t 21)) [], .mk (some 23) none (.bin .neq (.t 18) (.t 22)) []])
  (.cond (.t 23) (.seq
  (.reg false [.mk (some 24) none (.mv (.t 4)) [], .mk (some 25) none (.bin .leq (.k (.int .i64 0)) (.t 24)) [], .mk (some 26) none (.mv (.t 25)) [], .mk (some 27) (some (some 26, true)) (.mv (.t 4)) [], .mk (some 28) (some (some 26, true)) (.faddr (.t 2) 1) [], .mk (some 29) (some (some 26, true)) (.load none (.t 28)) [], .mk (some 30) (some (some 26, true)) (.call (.t 29) []) [], .mk (some 31) (some (some 26, true)) (.bin .mul (.k (.int .i64 8)) (.t 30)) [], .mk (some 32) (some (some 26, true)) (.bin .leq (.t 27) (.t 31)) [], .mk (some 33) none (.pick (.t 26) (.t 32) (.k (.bool false))) [], .mk (some 34) none (.call (.k (.fn 67 [] [])) [.t 33]) []])
  (.reg false [.mk (some 35) none (.mv (.t 1)) [], .mk (some 36) none (.mv (.t 4)) [], .mk (some 37) none (.mkslice false 1 1 [.int .u8 0] (.t 36) (.t 36)) [], .mk (some 38) none (.nilck (.t 35)) [], .mk none none (.store 1 (.t 38) (.t 37)) []])) .skip)) acBytesR))

theorem fn63' : FnIs Tryz.prog 63 96 acBytes [] := fn63.of_erase rfl

theorem aw_rangeF {P : Program} {nt : Nat} {f : AX} {ps : List Nat} {x y : ACode} {ca cb : Code} {Q : AEx → St → Prop} {t : Regs} {μ : Mem} {L : Lv} {df : List Dfr} {fid : Nat} {first cap : List PV} (hf : rd t f = .fn fid first cap)
    (h : ∀ i d, Fresh μ L i → Fresh μ L d → i ≠ d → ACall P fid (first ++ [.yld i] ++ cap) ((μ.set d .dq).set i (.lp false ⟨nt, t, ps, ca, cb, d⟩)) L
      (fun _ μ' L' => μ' i = some (.lp false ⟨nt, t, ps, ca, cb, d⟩) ∧ Q .normal ⟨t, μ'.del i, L', .coll d :: df⟩) (fun _ _ _ => False)) : AW P (.rangeF nt f ps x y ca cb) Q ⟨t, μ, L, df⟩ := by
  simp only [AW, hf]; exact h

theorem VStep.base {m : Md} {k0 : Nat} {E E' : Nat → Prop} {ws ws' : List Int} {μ0 μ μ' : Mem} {L L' : Lv} (h : VStep m k0 E ws ws' μ L μ' L') (hs : ∀ x, μ0 x ≠ none → μ x = μ0 x) (hE : ∀ x, E x → μ0 x ≠ none → E' x) (hk : μ0 k0 ≠ none) : VStep m k0 E' ws ws' μ0 L μ' L' := by
  obtain ⟨tk, tk', h1, h2, h3, h4⟩ := h.st
  refine ⟨⟨tk, tk', by unfold WS at h1 ⊢; rw [← hs k0 hk]; exact h1, h2, h3, h4⟩, h.len, fun j q1 q2 q3 => ?_⟩
  rw [h.fr j q1 (fun e => q2 (hE j e q3)) (by rw [hs j q3]; exact q3), hs j q3]

theorem VStep.out {m : Md} {k0 : Nat} {E : Nat → Prop} {ws ws' : List Int} {μ μ' μ2 : Mem} {L L' : Lv} (h : VStep m k0 E ws ws' μ L μ' L') (hs : ∀ x, x = k0 ∨ (μ x ≠ none ∧ ¬ E x) → μ2 x = μ' x) : VStep m k0 E ws ws' μ L μ2 L' := by
  obtain ⟨tk, tk', h1, h2, h3, h4⟩ := h.st
  refine ⟨⟨tk, tk', h1, by unfold WS at h2 ⊢; rw [hs k0 (.inl rfl)]; exact h2, h3, h4⟩, h.len, fun j q1 q2 q3 => ?_⟩
  rw [hs j (.inr ⟨q3, q2⟩), h.fr j q1 q2 q3]

theorem res63a : resolveCode Tryz.prog 96 (rfCodes Tryz.f63 0).1 = some (ACode.reg false [.mk (some 6) none (.mv (.t 45)) []]).erase := by kernel_rfl
theorem res63b : resolveCode Tryz.prog 96 (rfCodes Tryz.f63 0).2 = some acRb.erase := by kernel_rfl
theorem nd63a : noDefer (rfCodes Tryz.f63 0).1 = true := by kernel_rfl
theorem nd63b : noDefer (rfCodes Tryz.f63 0).2 = true := by kernel_rfl

end Go.Bm

/- Visitors: bytes, whole. -/
namespace Go.Bm
open Go Go.Proofs

theorem chunks8_cons {f : Nat} {x : Int} {xs : List Int} : chunks8 (f + 1) (x :: xs) = (x :: xs).take 8 :: chunks8 f ((x :: xs).drop 8) := rfl

theorem bytesR_ok {m : Md} {k0 i b off : Nat} {A B : List PV} {x : PV} {ys ws ws' : List Int} {zs : List (List Int)} {t : Regs} {μ : Mem} {L : Lv} {K KP : KA} (hik : i ≠ k0) (hbk : b ≠ k0) (hbi : b ≠ i) (t1 : t 1 = .ptr i off) (t2 : t 2 = .ptr b 0) (hA : A.length = off)
    (hb : μ b = some (.cells (vis m k0))) (hi : μ i = some (.cells (A ++ [x] ++ B))) (h : VS m k0 ws μ L) (hx : (∃ tk, x = .sl tk 1 (byts ys)) ∨ ∃ j, x = .slv j 0 ys.length 1 ∧ μ j = some (.cells (byts ys))) (hn : ys.length < 115292150460684)
    (hv : visitL (visitC m) (chunks8 ys.length ys) ws = some (zs, ws'))
    (hK : ∀ cs' μ' L', Rep .bytes cs' zs.flatten → μ' i = some (.cells (A ++ cs' ++ B)) → VStep m k0 (· = i) ws ws' μ L μ' L' → K (.tup []) μ' L') :
    AW Tryz.prog acBytesR (FQ Tryz.prog [] K KP) ⟨t, μ, L, []⟩ := by
  have e4 : (A ++ [x] ++ B)[off]? = some x := get_mid rfl hA
  have e5 : off + 1 ≤ (A ++ [x] ++ B).length := by simp; omega
  have e6 : ∀ d, spl (A ++ [x] ++ B) off 1 d = A ++ d ++ B := fun d => spl_mid' rfl hA rfl
  generalize hC : A ++ [x] ++ B = C at hi e4 e5 e6
  unfold acBytesR
  simp only [wkB, wkC, kernP, rd, rds, reduceIte, Nat.reduceEqDiff, Nat.reduceAdd, binop, intOp_mul, unop, shiftOp, strOp, isNil, fillElems, fillParts, elemZero, FQ, LeaveA, resA, resPV, resPVs, PV.fits, PV.flat, PV.leaf, Nat.reduceBEq, Nat.reduceLT, Nat.reduceLeDiff, Int.reduceLT, Int.reduceLE, Int.reduceToNat, t1, t2, hi, e4]
  refine cloneb_ok hx (by omega) ?_
  intro j hj
  simp only [wkB, wkC, kernP, rd, rds, reduceIte, Nat.reduceEqDiff, Nat.reduceAdd, binop, intOp_mul, unop, shiftOp, strOp, isNil, fillElems, fillParts, elemZero, FQ, LeaveA, resA, resPV, resPVs, PV.fits, PV.flat, PV.leaf, Nat.reduceBEq, Nat.reduceLT, Nat.reduceLeDiff, Int.reduceLT, Int.reduceLE, Int.reduceToNat, t1, t2]
  refine chunk_ok ?_
  intro b1 b2 hb1 hb2
  simp only [wkB, wkC, kernP, rd, rds, reduceIte, Nat.reduceEqDiff, Nat.reduceAdd, binop, intOp_mul, unop, shiftOp, strOp, isNil, fillElems, fillParts, elemZero, FQ, LeaveA, resA, resPV, resPVs, PV.fits, PV.flat, PV.leaf, Nat.reduceBEq, Nat.reduceLT, Nat.reduceLeDiff, Int.reduceLT, Int.reduceLE, Int.reduceToNat, t1, t2]
  -- the numbers are all new
  have hjk : j ≠ k0 := fun e => h.ne (e ▸ hj.1)
  have hji : j ≠ i := fun e => by rw [← e, hj.1] at hi; cases hi
  have hjb : j ≠ b := fun e => by rw [← e, hj.1] at hb; cases hb
  have hb1' : b1 ≠ j ∧ μ b1 = none := by
    have := hb1.1
    simp only [Mem.set] at this
    split at this
    · cases this
    · rename_i q; exact ⟨q, this⟩
  have hb2' : b2 ≠ b1 ∧ b2 ≠ j ∧ μ b2 = none := by
    have := hb2.1
    simp only [Mem.set] at this
    split at this
    · cases this
    · rename_i q
      split at this
      · cases this
      · rename_i q'; exact ⟨q, q', this⟩
  refine aw_rangeF (fid := 202) (first := []) (cap := [.ptr b1 0, .ptr b2 0]) (by simp only [wkB, wkC, kernP, rd, rds, reduceIte, Nat.reduceEqDiff, Nat.reduceAdd, binop, intOp_mul, unop, shiftOp, strOp, isNil, fillElems, fillParts, elemZero, FQ, LeaveA, resA, resPV, resPVs, PV.fits, PV.flat, PV.leaf, Nat.reduceBEq, Nat.reduceLT, Nat.reduceLeDiff, Int.reduceLT, Int.reduceLE, Int.reduceToNat]) ?_
  intro iy d hiy hd hne
  have new : ∀ {y}, Fresh (((μ.set j (.cells (byts ys))).set b1 (.cells [.slv j 0 ys.length 1])).set b2 (.cells [.int .i64 8])) L y → y ≠ b2 ∧ y ≠ b1 ∧ y ≠ j ∧ μ y = none := by
    intro y hy
    have := hy.1
    simp only [Mem.set] at this
    split at this
    · cases this
    · rename_i q
      split at this
      · cases this
      · rename_i q'
        split at this
        · cases this
        · rename_i q2; exact ⟨q, q', q2, this⟩
  obtain ⟨y1, y2, y3, y4⟩ := new hiy
  obtain ⟨d1, d2, d3, d4⟩ := new hd
  generalize hT : upd _ 44 _ = T
  have T1 : T 1 = .ptr i off := by rw [← hT]; simp only [wkB, wkC, kernP, rd, rds, reduceIte, Nat.reduceEqDiff, Nat.reduceAdd, binop, intOp_mul, unop, shiftOp, strOp, isNil, fillElems, fillParts, elemZero, FQ, LeaveA, resA, resPV, resPVs, PV.fits, PV.flat, PV.leaf, Nat.reduceBEq, Nat.reduceLT, Nat.reduceLeDiff, Int.reduceLT, Int.reduceLE, Int.reduceToNat, t1]
  have T2 : T 2 = .ptr b 0 := by rw [← hT]; simp only [wkB, wkC, kernP, rd, rds, reduceIte, Nat.reduceEqDiff, Nat.reduceAdd, binop, intOp_mul, unop, shiftOp, strOp, isNil, fillElems, fillParts, elemZero, FQ, LeaveA, resA, resPV, resPVs, PV.fits, PV.flat, PV.leaf, Nat.reduceBEq, Nat.reduceLT, Nat.reduceLeDiff, Int.reduceLT, Int.reduceLE, Int.reduceToNat, t2]
  have T5 : T 5 = .slv j 0 ys.length 1 := by rw [← hT]; simp only [wkB, wkC, kernP, rd, rds, reduceIte, Nat.reduceEqDiff, Nat.reduceAdd, binop, intOp_mul, unop, shiftOp, strOp, isNil, fillElems, fillParts, elemZero, FQ, LeaveA, resA, resPV, resPVs, PV.fits, PV.flat, PV.leaf, Nat.reduceBEq, Nat.reduceLT, Nat.reduceLeDiff, Int.reduceLT, Int.reduceLE, Int.reduceToNat]
  clear hT
  obtain ⟨M, hM⟩ : ∃ M, M = ((((μ.set j (.cells (byts ys))).set b1 (.cells [.slv j 0 ys.length 1])).set b2 (.cells [.int .i64 8])).set d .dq).set iy (.lp false ⟨96, T, [45], (rfCodes Tryz.f63 0).1, (rfCodes Tryz.f63 0).2, d⟩) := ⟨_, rfl⟩
  rw [← hM]
  have Mold : ∀ z, μ z ≠ none → M z = μ z := by
    intro z hz
    have n1 : z ≠ iy := fun e => hz (by rw [e]; exact y4)
    have n2 : z ≠ d := fun e => hz (by rw [e]; exact d4)
    have n3 : z ≠ b2 := fun e => hz (by rw [e]; exact hb2'.2.2)
    have n4 : z ≠ b1 := fun e => hz (by rw [e]; exact hb1'.2)
    have n5 : z ≠ j := fun e => hz (by rw [e]; exact hj.1)
    rw [hM]
    simp only [Mem.set, n1, n2, n3, n4, n5, if_false]
  have Miy : M iy = some (.lp false ⟨96, T, [45], (rfCodes Tryz.f63 0).1, (rfCodes Tryz.f63 0).2, d⟩) := by rw [hM]; simp [Mem.set]
  have Md' : M d = some .dq := by rw [hM]; simp [Mem.set, hne.symm]
  have Mb2 : M b2 = some (.cells [.int .i64 8]) := by rw [hM]; simp [Mem.set, y1.symm, d1.symm]
  have Mb1 : M b1 = some (.cells [.slv j 0 ys.length 1]) := by rw [hM]; simp [Mem.set, y2.symm, d2.symm, hb2'.1.symm]
  have Mj : M j = some (.cells (byts ys)) := by rw [hM]; simp [Mem.set, y3.symm, d3.symm, hb2'.2.1.symm, hb1'.1.symm]
  have hk1 : b1 ≠ k0 := fun e => h.ne (e ▸ hb1'.2)
  have hk2 : b2 ≠ k0 := fun e => h.ne (e ▸ hb2'.2.2)
  have hky : iy ≠ k0 := fun e => h.ne (e ▸ y4)
  have hkd : d ≠ k0 := fun e => h.ne (e ▸ d4)
  have hVM : VS m k0 ws M L := by
    obtain ⟨q1, tk, q2, q3⟩ := h
    exact ⟨q1, tk, by unfold WS at q2 ⊢; rw [Mold k0 (by rw [q2]; simp), q2], q3⟩
  have Mb : M b = some (.cells (vis m k0)) := by rw [Mold b (by rw [hb]; simp), hb]
  refine chunkf_ok (j := j) (n := ys.length) (fun k μ' L' => ∃ zs1 zs2 rest wsk fuel, zs = zs1 ++ zs2 ∧ rest.length ≤ fuel ∧ visitL (visitC m) (chunks8 fuel rest) wsk = some (zs2, ws') ∧ zs1.flatten.length + rest.length = ys.length ∧ (8 * k ≤ ys.length → zs1.flatten.length = 8 * k) ∧ (ys.length < 8 * k → rest = []) ∧
    μ' j = some (.cells (byts zs1.flatten ++ byts rest)) ∧ VStep m k0 (· = j) ws wsk M L μ' L') ?_ ?_ (by omega) ?_ ?_
  · rintro k μ' L' ⟨zs1, zs2, rest, wsk, fuel, g1, g2, g3, g4, g5, g6, g7, g8⟩
    exact ⟨by rw [g8.fr b1 hk1 hb1'.1 (by rw [Mb1]; simp), Mb1], by rw [g8.fr b2 hk2 hb2'.2.1 (by rw [Mb2]; simp), Mb2]⟩
  · exact ⟨[], zs, ys, ws, ys.length, rfl, Nat.le_refl _, hv, by simp, fun _ => by simp, fun h => by omega, by simpa using Mj, .refl hVM⟩
  · rintro k μ' L' hlt ⟨zs1, zs2, rest, wsk, fuel, g1, g2, g3, g4, g5, g6, g7, g8⟩
    have hl1 := g5 (by omega)
    have giy : μ' iy = some (.lp false ⟨96, T, [45], (rfCodes Tryz.f63 0).1, (rfCodes Tryz.f63 0).2, d⟩) := by rw [g8.fr iy hky y3 (by rw [Miy]; simp), Miy]
    have gb : μ' b = some (.cells (vis m k0)) := by rw [g8.fr b hbk hjb.symm (by rw [Mb]; simp), Mb]
    cases rest with
    | nil => rw [List.length_nil] at g4; omega
    | cons z rest =>
      cases fuel with
      | zero => simp at g2
      | succ fuel =>
        rw [chunks8_cons] at g3
        generalize hR : z :: rest = R at *
        simp only [visitL] at g3
        split at g3
        · cases g3
        · rename_i zb ws2 hc
          split at g3
          · cases g3
          · rename_i zs3 ws3 hr
            simp only [Option.some.injEq, Prod.mk.injEq] at g3
            obtain ⟨rfl, rfl⟩ := g3
            have hRl : R.length = ys.length - 8 * k := by omega
            have hcl : (R.take 8).length = min 8 (ys.length - 8 * k) := by simp [hRl]
            refine ayield_of_aw mix giy rfl (by simp) res63a res63b nd63a nd63b ?_
            simp only [wkB, wkC, kernP, rd, rds, reduceIte, Nat.reduceEqDiff, Nat.reduceAdd, binop, intOp_mul, unop, shiftOp, strOp, isNil, fillElems, fillParts, elemZero, FQ, LeaveA, resA, resPV, resPVs, PV.fits, PV.flat, PV.leaf, Nat.reduceBEq, Nat.reduceLT, Nat.reduceLeDiff, Int.reduceLT, Int.reduceLE, Int.reduceToNat, YA, setPs]
            refine ⟨giy, ?_⟩
            have hzl : zb.length = (R.take 8).length := by
              obtain ⟨r, _, hz, _⟩ := visitC_spec hc
              rw [hz]; simp [unpack]
            refine round_ok (m := m) (k0 := k0) (j := j) (o := 8 * k) (b := b) (X := byts zs1.flatten) (Y := byts (R.drop 8)) (cb := R.take 8) (zb := zb) (ws := wsk) (ws' := ws2) hjk hbk hjb.symm (by rw [List.length_take]; omega) (by simp only [wkB, wkC, kernP, rd, rds, reduceIte, Nat.reduceEqDiff, Nat.reduceAdd, binop, intOp_mul, unop, shiftOp, strOp, isNil, fillElems, fillParts, elemZero, FQ, LeaveA, resA, resPV, resPVs, PV.fits, PV.flat, PV.leaf, Nat.reduceBEq, Nat.reduceLT, Nat.reduceLeDiff, Int.reduceLT, Int.reduceLE, Int.reduceToNat]; rw [hcl]) (by simp only [wkB, wkC, kernP, rd, rds, reduceIte, Nat.reduceEqDiff, Nat.reduceAdd, binop, intOp_mul, unop, shiftOp, strOp, isNil, fillElems, fillParts, elemZero, FQ, LeaveA, resA, resPV, resPVs, PV.fits, PV.flat, PV.leaf, Nat.reduceBEq, Nat.reduceLT, Nat.reduceLeDiff, Int.reduceLT, Int.reduceLE, Int.reduceToNat, T2]) ?_ ?_ (by rw [List.length_map]; exact hl1) (g8.vs.set hky) hc ?_
            · simp only [Mem.set]
              rw [if_neg (fun e => by rw [e, y4] at hb; cases hb)]; exact gb
            · simp only [Mem.set]
              have hbR : byts R = byts (R.take 8) ++ byts (R.drop 8) := by rw [← List.map_append, List.take_append_drop]
              rw [if_neg y3.symm, g7, hbR, ← List.append_assoc]
            · intro t' μ2 L2 q1 q2
              have hiy2 : μ2 iy = some (.lp true ⟨96, T, [45], (rfCodes Tryz.f63 0).1, (rfCodes Tryz.f63 0).2, d⟩) := by rw [q2.fr iy hky y3 (by simp [Mem.set])]; simp [Mem.set]
              refine ⟨hiy2, rfl, zs1 ++ [zb], zs3, R.drop 8, ws2, fuel, by simp [g1], ?_, hr, ?_, ?_, ?_, ?_, ?_⟩
              · simp; omega
              · simp only [List.flatten_append, List.length_append, List.flatten_cons, List.flatten_nil, List.append_nil, hzl, List.length_drop, List.length_take]; omega
              · intro hh
                simp only [List.flatten_append, List.length_append, List.flatten_cons, List.flatten_nil, List.append_nil, hzl, List.length_take]; omega
              · intro hh
                apply List.drop_eq_nil_of_le; omega
              · simp only [Mem.set]
                rw [if_neg y3.symm, q1]; simp
              · have q3 : VStep m k0 (· = j) wsk ws2 μ' L' (μ2.set iy (.lp false ⟨96, T, [45], (rfCodes Tryz.f63 0).1, (rfCodes Tryz.f63 0).2, d⟩)) L2 := by
                  obtain ⟨tk, tk', s1, s2, s3, s4⟩ := q2.st
                  refine ⟨⟨tk, tk', ?_, ?_, s3, s4⟩, q2.len, fun z z1 z2 z3 => ?_⟩
                  · unfold WS at s1 ⊢; simpa [Mem.set, hky.symm] using s1
                  · unfold WS at s2 ⊢; simpa [Mem.set, hky.symm] using s2
                  · by_cases e : z = iy
                    · subst e; simp [Mem.set, giy]
                    · simp only [Mem.set, e, if_false]
                      rw [q2.fr z z1 z2 (by simpa [Mem.set, e] using z3)]
                      simp [Mem.set, e]
                exact g8.trans q3
  · rintro k μ' L' hk1 hk2 ⟨zs1, zs2, rest, wsk, fuel, g1, g2, g3, g4, g5, g6, g7, g8⟩
    have hrest : rest = [] := by
      by_cases hh : 8 * k ≤ ys.length
      · have := g5 hh
        exact List.eq_nil_of_length_eq_zero (by omega)
      · exact g6 (by omega)
    subst hrest
    have hc0 : chunks8 fuel [] = [] := by cases fuel <;> rfl
    rw [hc0] at g3
    simp only [visitL, Option.some.injEq, Prod.mk.injEq] at g3
    obtain ⟨rfl, rfl⟩ := g3
    rw [List.append_nil] at g1
    subst g1
    rw [List.length_nil, Nat.add_zero] at g4
    have giy : μ' iy = some (.lp false ⟨96, T, [45], (rfCodes Tryz.f63 0).1, (rfCodes Tryz.f63 0).2, d⟩) := by rw [g8.fr iy hky y3 (by rw [Miy]; simp), Miy]
    have gd : μ' d = some .dq := by rw [g8.fr d hkd d3 (by rw [Md']; simp), Md']
    have Mi : M i = some (.cells C) := by rw [Mold i (by rw [hi]; simp), hi]
    have gi : μ' i = some (.cells C) := by rw [g8.fr i hik hji.symm (by rw [Mi]; simp), Mi]
    have hiiy : i ≠ iy := fun e => by rw [e, y4] at hi; cases hi
    have hid : i ≠ d := fun e => by rw [e, d4] at hi; cases hi
    refine ⟨giy, ?_⟩
    simp only [wkB, wkC, kernP, rd, rds, reduceIte, Nat.reduceEqDiff, Nat.reduceAdd, binop, intOp_mul, unop, shiftOp, strOp, isNil, fillElems, fillParts, elemZero, FQ, LeaveA, resA, resPV, resPVs, PV.fits, PV.flat, PV.leaf, Nat.reduceBEq, Nat.reduceLT, Nat.reduceLeDiff, Int.reduceLT, Int.reduceLE, Int.reduceToNat]
    refine gho_intro (GhoS.freeze (j := j) (sz := 1) (xs := byts zs.flatten) (t' := upd (upd (fun _ => .junk) 1 (.ptr i off)) 5 (.sl .no 1 (byts zs.flatten))) ?_ ?_ ?_ ?_)
    · simp only [Mem.del]
      rw [if_neg y3.symm, g7, flats_byts]; simp
    · intro y hy
      simp only [byts, List.mem_map] at hy
      obtain ⟨z, _, rfl⟩ := hy
      rfl
    · intro n
      by_cases e5' : n = 5
      · subst e5'
        right
        refine ⟨?_, by simp only [wkB, wkC, kernP, rd, rds, reduceIte, Nat.reduceEqDiff, Nat.reduceAdd, binop, intOp_mul, unop, shiftOp, strOp, isNil, fillElems, fillParts, elemZero, FQ, LeaveA, resA, resPV, resPVs, PV.fits, PV.flat, PV.leaf, Nat.reduceBEq, Nat.reduceLT, Nat.reduceLeDiff, Int.reduceLT, Int.reduceLE, Int.reduceToNat]⟩
        show T 5 = _
        rw [T5, List.length_map, g4]
      · left
        by_cases e1' : n = 1
        · subst e1'
          show Wk (T 1) _
          rw [T1]
          simp only [wkB, wkC, kernP, rd, rds, reduceIte, Nat.reduceEqDiff, Nat.reduceAdd, binop, intOp_mul, unop, shiftOp, strOp, isNil, fillElems, fillParts, elemZero, FQ, LeaveA, resA, resPV, resPVs, PV.fits, PV.flat, PV.leaf, Nat.reduceBEq, Nat.reduceLT, Nat.reduceLeDiff, Int.reduceLT, Int.reduceLE, Int.reduceToNat]
          exact Wk.rfl' _
        · have : upd (upd (fun _ => PV.junk) 1 (.ptr i off)) 5 (.sl .no 1 (byts zs.flatten)) n = .junk := by simp only [wkB, wkC, kernP, rd, rds, reduceIte, Nat.reduceEqDiff, Nat.reduceAdd, binop, intOp_mul, unop, shiftOp, strOp, isNil, fillElems, fillParts, elemZero, FQ, LeaveA, resA, resPV, resPVs, PV.fits, PV.flat, PV.leaf, Nat.reduceBEq, Nat.reduceLT, Nat.reduceLeDiff, Int.reduceLT, Int.reduceLE, Int.reduceToNat, e5', e1']
          rw [this]
          exact Wk.junk _
    · have gi' : ((Mem.del μ' iy).del j) i = some (.cells C) := by simp only [Mem.del, hji.symm, hiiy, if_false]; exact gi
      have gd' : ((Mem.del μ' iy).del j) d = some .dq := by simp only [Mem.del, d3, hne.symm, if_false]; exact gd
      have hVb : VStep m k0 (· = i) ws wsk μ L μ' L' := g8.base Mold (fun z hz hz' => absurd (hz ▸ hj.1) hz') h.ne
      have hfin : VStep m k0 (· = i) ws wsk μ L ((((Mem.del μ' iy).del j).set i (.cells (A ++ [.sl .no 1 (byts zs.flatten)] ++ B))).del d) L' := by
        refine hVb.out ?_
        intro z hz
        have n1 : z ≠ iy := by rcases hz with rfl | ⟨hz, _⟩; exact hky.symm; exact fun e => hz (by rw [e]; exact y4)
        have n2 : z ≠ d := by rcases hz with rfl | ⟨hz, _⟩; exact hkd.symm; exact fun e => hz (by rw [e]; exact d4)
        have n5 : z ≠ j := by rcases hz with rfl | ⟨hz, _⟩; exact hjk.symm; exact fun e => hz (by rw [e]; exact hj.1)
        have n6 : z ≠ i := by rcases hz with rfl | ⟨_, hz⟩; exact hik.symm; exact hz
        simp only [Mem.set, Mem.del, n1, n2, n5, n6, if_false]
      generalize hN : (Mem.del μ' iy).del j = N at gi' gd' hfin
      simp only [wkB, wkC, kernP, rd, rds, reduceIte, Nat.reduceEqDiff, Nat.reduceAdd, binop, intOp_mul, unop, shiftOp, strOp, isNil, fillElems, fillParts, elemZero, FQ, LeaveA, resA, resPV, resPVs, PV.fits, PV.flat, PV.leaf, Nat.reduceBEq, Nat.reduceLT, Nat.reduceLeDiff, Int.reduceLT, Int.reduceLE, Int.reduceToNat, gi', e5, e6, hid.symm, gd']
      refine ⟨_, rfl, hK [.sl .no 1 (byts zs.flatten)] _ _ ⟨.no, rfl⟩ ?_ hfin⟩
      simp only [Mem.del, Mem.set, hid, if_false, if_true]

theorem visit_bytes {m : Md} {bs vs' : List Int} {ws ws' : List Int} (h : visit m .bytes bs ws = some (vs', ws')) :
    ∃ n ws1 ys zs, m.num (bs.length : Int) ws = some (n, ws1) ∧ sized m (0 : Int) 8 bs n ws1 = some ys ∧ visitL (visitC m) (chunks8 ys.length ys) ws1 = some (zs, ws') ∧ vs' = zs.flatten := by
  simp only [visit] at h
  split at h
  · cases h
  · rename_i n ws1 h1
    split at h
    · cases h
    · rename_i ys h2
      split at h
      · cases h
      · rename_i zs ws2 h3
        simp only [Option.some.injEq, Prod.mk.injEq] at h
        obtain ⟨rfl, rfl⟩ := h
        exact ⟨n, ws1, ys, zs, h1, h2, h3, rfl⟩

theorem bytes_ok : VisOk .bytes 63 := by
  intro m k0 i off A cs B v v' ws ws' μ L K KP h1 h3 h4 h5 h6 h8 hK
  obtain ⟨n, ws1, ys, zs, hnum, hsz, hvl, rfl⟩ := visit_bytes h8
  obtain ⟨tk, rfl⟩ := h5
  refine acall_of_aw mix fn63' (by simp) ?_
  unfold acBytes
  have hfit := vis_fits m k0
  have e3 := vis_num m k0
  simp only [PV.fits, PV.flat] at hfit
  simp only [wkB, wkC, kernP, rd, rds, reduceIte, Nat.reduceEqDiff, Nat.reduceAdd, binop, intOp_mul, unop, shiftOp, strOp, isNil, fillElems, fillParts, elemZero, FQ, LeaveA, resA, resPV, resPVs, PV.fits, PV.flat, PV.leaf, Nat.reduceBEq, Nat.reduceLT, Nat.reduceLeDiff, Int.reduceLT, Int.reduceLE, Int.reduceToNat, hfit]
  intro b hb
  have hib : i ≠ b := fun e => by rw [e, hb.1] at h3; cases h3
  have hbk : b ≠ k0 := fun e => h6.ne (e ▸ hb.1)
  refine aw_draw (by decide) (fun _ _ _ h => h) ?_
  have e4 : (A ++ [PV.sl tk 1 (byts v)] ++ B)[off]? = some (PV.sl tk 1 (byts v)) := get_mid rfl h4
  have e5 : off + 1 ≤ (A ++ [PV.sl tk 1 (byts v)] ++ B).length := by simp; omega
  have e6 : ∀ d, spl (A ++ [PV.sl tk 1 (byts v)] ++ B) off 1 d = A ++ d ++ B := fun d => spl_mid' rfl h4 rfl
  obtain ⟨C, hC⟩ : ∃ C, C = A ++ [PV.sl tk 1 (byts v)] ++ B := ⟨_, rfl⟩
  have h3' : μ i = some (.cells C) := by rw [hC]; exact h3
  rw [← hC] at e4 e5 e6
  simp only [wkB, wkC, kernP, rd, rds, reduceIte, Nat.reduceEqDiff, Nat.reduceAdd, binop, intOp_mul, unop, shiftOp, strOp, isNil, fillElems, fillParts, elemZero, FQ, LeaveA, resA, resPV, resPVs, PV.fits, PV.flat, PV.leaf, Nat.reduceBEq, Nat.reduceLT, Nat.reduceLeDiff, Int.reduceLT, Int.reduceLE, Int.reduceToNat, e3, hib, h3', e4, List.length_map, Nat.add_zero]
  refine num_ok (h6.box hb) hnum ?_
  intro μ1 L1 s1
  have g6 : μ1 b = some (.cells (vis m k0)) := by rw [s1.fr b hbk (fun h => h) (by simp [Mem.set])]; simp [Mem.set]
  have g3 : μ1 i = some (.cells C) := by rw [s1.fr i h1 (fun h => h) (by simp [Mem.set, hib, h3'])]; simp [Mem.set, hib, h3']
  have s1' : VStep m k0 (· = i) ws ws1 μ L μ1 L1 := (s1.box hb h6.ne).weak (fun _ h => h.elim)
  simp only [sized] at hsz
  split at hsz
  · cases hsz
  · rename_i hmax
    have hmax' : v.length ≤ 1099511627776 := by unfold wmax at hmax; omega
    split at hsz
    · rename_i hnn
      cases hsz
      have e7 : (n != (v.length : Int)) = false := by simp [hnn]
      simp only [wkB, wkC, kernP, rd, rds, reduceIte, Nat.reduceEqDiff, Nat.reduceAdd, binop, intOp_mul, unop, shiftOp, strOp, isNil, fillElems, fillParts, elemZero, FQ, LeaveA, resA, resPV, resPVs, PV.fits, PV.flat, PV.leaf, Nat.reduceBEq, Nat.reduceLT, Nat.reduceLeDiff, Int.reduceLT, Int.reduceLE, Int.reduceToNat, e3, g3, e4, List.length_map, e7]
      refine bytesR_ok (A := A) (B := B) (x := .sl tk 1 (byts v)) h1 hbk hib.symm (by simp only [wkB, wkC, kernP, rd, rds, reduceIte, Nat.reduceEqDiff, Nat.reduceAdd, binop, intOp_mul, unop, shiftOp, strOp, isNil, fillElems, fillParts, elemZero, FQ, LeaveA, resA, resPV, resPVs, PV.fits, PV.flat, PV.leaf, Nat.reduceBEq, Nat.reduceLT, Nat.reduceLeDiff, Int.reduceLT, Int.reduceLE, Int.reduceToNat]) (by simp only [wkB, wkC, kernP, rd, rds, reduceIte, Nat.reduceEqDiff, Nat.reduceAdd, binop, intOp_mul, unop, shiftOp, strOp, isNil, fillElems, fillParts, elemZero, FQ, LeaveA, resA, resPV, resPVs, PV.fits, PV.flat, PV.leaf, Nat.reduceBEq, Nat.reduceLT, Nat.reduceLeDiff, Int.reduceLT, Int.reduceLE, Int.reduceToNat]) h4 g6 (by rw [g3, hC]) s1.vs (.inl ⟨tk, rfl⟩) (by omega) hvl ?_
      intro cs' μ' L' q1 q2 q3
      exact hK cs' μ' L' q1 q2 (s1'.trans q3)
    · rename_i hnn
      split at hsz
      · rename_i hc
        obtain ⟨rfl, hc1, hc2⟩ := hc
        cases hsz
        have hm1 : ws1.length ≤ 1099511627776 := s1.vs.1
        have e7 : (n != (v.length : Int)) = true := by simp [hnn]
        have e8 : (vis .dec k0)[1]? = some (.fn 82 [] [.ptr k0 0]) := rfl
        have e9 : decide ((0 : Int) ≤ n) = true := by simpa using hc1
        have e10 : IntKind.wrap .i64 (8 * (ws1.length : Int)) = 8 * (ws1.length : Int) := IntWalk.i64_in _ (by omega)
        have e11 : decide (n ≤ 8 * (ws1.length : Int)) = true := by simp only [decide_eq_true_eq]; omega
        simp only [wkB, wkC, kernP, rd, rds, reduceIte, Nat.reduceEqDiff, Nat.reduceAdd, binop, intOp_mul, unop, shiftOp, strOp, isNil, fillElems, fillParts, elemZero, FQ, LeaveA, resA, resPV, resPVs, PV.fits, PV.flat, PV.leaf, Nat.reduceBEq, Nat.reduceLT, Nat.reduceLeDiff, Int.reduceLT, Int.reduceLE, Int.reduceToNat, e3, g3, e4, List.length_map, e7, g6, e8, e9]
        refine limit_ok s1.vs ?_
        simp only [wkB, wkC, kernP, rd, rds, reduceIte, Nat.reduceEqDiff, Nat.reduceAdd, binop, intOp_mul, unop, shiftOp, strOp, isNil, fillElems, fillParts, elemZero, FQ, LeaveA, resA, resPV, resPVs, PV.fits, PV.flat, PV.leaf, Nat.reduceBEq, Nat.reduceLT, Nat.reduceLeDiff, Int.reduceLT, Int.reduceLE, Int.reduceToNat, e9, e10, e11]
        refine need_ok ?_
        simp only [wkB, wkC, kernP, rd, rds, reduceIte, Nat.reduceEqDiff, Nat.reduceAdd, binop, intOp_mul, unop, shiftOp, strOp, isNil, fillElems, fillParts, elemZero, FQ, LeaveA, resA, resPV, resPVs, PV.fits, PV.flat, PV.leaf, Nat.reduceBEq, Nat.reduceLT, Nat.reduceLeDiff, Int.reduceLT, Int.reduceLE, Int.reduceToNat]
        refine mks_int (n := n) (k := .i64) (k' := .i64) (by simp only [wkB, wkC, kernP, rd, rds, reduceIte, Nat.reduceEqDiff, Nat.reduceAdd, binop, intOp_mul, unop, shiftOp, strOp, isNil, fillElems, fillParts, elemZero, FQ, LeaveA, resA, resPV, resPVs, PV.fits, PV.flat, PV.leaf, Nat.reduceBEq, Nat.reduceLT, Nat.reduceLeDiff, Int.reduceLT, Int.reduceLE, Int.reduceToNat]) (by simp only [wkB, wkC, kernP, rd, rds, reduceIte, Nat.reduceEqDiff, Nat.reduceAdd, binop, intOp_mul, unop, shiftOp, strOp, isNil, fillElems, fillParts, elemZero, FQ, LeaveA, resA, resPV, resPVs, PV.fits, PV.flat, PV.leaf, Nat.reduceBEq, Nat.reduceLT, Nat.reduceLeDiff, Int.reduceLT, Int.reduceLE, Int.reduceToNat]) hc1 (by omega) ?_
        intro j0 hj0
        have hij : i ≠ j0 := fun e => by rw [e, hj0.1] at g3; cases g3
        have hbj : b ≠ j0 := fun e => by rw [e, hj0.1] at g6; cases g6
        simp only [wkB, wkC, kernP, rd, rds, reduceIte, Nat.reduceEqDiff, Nat.reduceAdd, binop, intOp_mul, unop, shiftOp, strOp, isNil, fillElems, fillParts, elemZero, FQ, LeaveA, resA, resPV, resPVs, PV.fits, PV.flat, PV.leaf, Nat.reduceBEq, Nat.reduceLT, Nat.reduceLeDiff, Int.reduceLT, Int.reduceLE, Int.reduceToNat, hij, g3, e5, e6]
        have hfl : (List.replicate n.toNat [PV.int .u8 0]).flatten = byts (List.replicate n.toNat 0) := by simp [byts]
        have hln : (List.replicate n.toNat (0 : Int)).length = n.toNat := by simp
        rw [hfl]
        have hs2 : VStep .dec k0 (· = i) ws ws1 μ L ((μ1.set j0 (.cells (byts (List.replicate n.toNat 0)))).set i (.cells (A ++ [.slv j0 0 n.toNat 1] ++ B))) L1 := by
          refine s1'.out ?_
          intro z hz
          have n1 : z ≠ i := by rcases hz with rfl | ⟨_, hz⟩; exact h1.symm; exact hz
          have n2 : z ≠ j0 := by
            intro e
            have : μ1 z = none := by rw [e]; exact hj0.1
            rcases hz with rfl | ⟨hz, hz'⟩
            · exact s1.vs.ne this
            · by_cases hk : z = k0
              · rw [hk] at this; exact s1.vs.ne this
              · rw [s1'.fr z hk hz' hz] at this; exact hz this
          simp only [Mem.set, n1, n2, if_false]
        refine bytesR_ok (A := A) (B := B) (x := .slv j0 0 n.toNat 1) (ys := List.replicate n.toNat 0) h1 hbk hib.symm (by simp only [wkB, wkC, kernP, rd, rds, reduceIte, Nat.reduceEqDiff, Nat.reduceAdd, binop, intOp_mul, unop, shiftOp, strOp, isNil, fillElems, fillParts, elemZero, FQ, LeaveA, resA, resPV, resPVs, PV.fits, PV.flat, PV.leaf, Nat.reduceBEq, Nat.reduceLT, Nat.reduceLeDiff, Int.reduceLT, Int.reduceLE, Int.reduceToNat]) (by simp only [wkB, wkC, kernP, rd, rds, reduceIte, Nat.reduceEqDiff, Nat.reduceAdd, binop, intOp_mul, unop, shiftOp, strOp, isNil, fillElems, fillParts, elemZero, FQ, LeaveA, resA, resPV, resPVs, PV.fits, PV.flat, PV.leaf, Nat.reduceBEq, Nat.reduceLT, Nat.reduceLeDiff, Int.reduceLT, Int.reduceLE, Int.reduceToNat]) h4 (by simp only [Mem.set, hib.symm, hbj, if_false]; exact g6) (by simp [Mem.set]) hs2.vs (.inr ⟨j0, by rw [hln], by simp [Mem.set, hij.symm]⟩) (by rw [hln]; omega) hvl ?_
        intro cs' μ' L' q1 q2 q3
        exact hK cs' μ' L' q1 q2 (hs2.trans q3)
      · cases hsz

end Go.Bm
