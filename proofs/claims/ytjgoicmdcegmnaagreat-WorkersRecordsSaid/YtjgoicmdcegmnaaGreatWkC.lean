/- Walks: Encode, record, Recover; plain laws of records. -/
import Derived.Test.YtjgoicmdcegmnaaGreatWkB
import Derived.Test.YtjgoicmdcegmnaaGreatAcA
import Derived.Test.YtjgoicmdcegmnaaGreatWkA

set_option linter.unusedVariables false
set_option linter.unusedSimpArgs false

/- Visitors: needs and entries. -/
namespace Go.Bm
open Go Go.Proofs

theorem vneed_ok : VisOk TNeed 26 := by
  intro m k0 i off A cs B v v' ws ws' μ L K KP h1 h3 h4 h5 h6 h8 hK
  obtain ⟨x1, v⟩ := v
  obtain ⟨c1, cs, rfl, q1, h5⟩ := h5
  obtain ⟨y1, V1, ws1, p1, H1, eV1⟩ := visit_pair h8
  subst eV1
  obtain ⟨x2, v⟩ := v
  obtain ⟨c2, cs, rfl, q2, h5⟩ := h5
  obtain ⟨y2, V2, ws2, p2, H2, eV2⟩ := visit_pair H1
  subst eV2
  obtain ⟨x3, v⟩ := v
  obtain ⟨c3, cs, rfl, q3, h5⟩ := h5
  obtain ⟨y3, V3, ws3, p3, H3, eV3⟩ := visit_pair H2
  subst eV3
  obtain ⟨x4, v⟩ := v
  obtain ⟨c4, cs, rfl, q4, h5⟩ := h5
  obtain ⟨y4, V4, ws4, p4, H4, eV4⟩ := visit_pair H3
  subst eV4
  obtain ⟨x5, v⟩ := v
  obtain ⟨c5, cs, rfl, q5, h5⟩ := h5
  obtain ⟨y5, V5, ws5, p5, H5, eV5⟩ := visit_pair H4
  subst eV5
  refine acall_of_aw mix fn26 (by simp) ?_
  unfold ac26
  have hfit := vis_fits m k0
  simp only [PV.fits, PV.flat] at hfit
  simp only [wkB, wkC, kernP, rd, rds, reduceIte, Nat.reduceEqDiff, Nat.reduceAdd, binop, intOp_mul, unop, shiftOp, strOp, isNil, fillElems, fillParts, elemZero, FQ, LeaveA, resA, resPV, resPVs, PV.fits, PV.flat, PV.leaf, Nat.reduceBEq, Nat.reduceLT, Nat.reduceLeDiff, Int.reduceLT, Int.reduceLE, Int.reduceToNat, hfit]
  intro b hb
  have hib : i ≠ b := fun e => by rw [e, hb.1] at h3; cases h3
  have hbk : b ≠ k0 := fun e => h6.ne (e ▸ hb.1)
  have S0 : VStep m k0 (· = i) ws ws (μ.set b (.cells (vis m k0))) L (μ.set b (.cells (vis m k0))) L := .refl (h6.box hb)
  have gb0 : (μ.set b (.cells (vis m k0))) b = some (.cells (vis m k0)) := by simp [Mem.set]
  have g0 : (μ.set b (.cells (vis m k0))) i = some (.cells (A ++ c1 ++ (c2 ++ (c3 ++ (c4 ++ (c5 ++ (cs ++ B))))))) := cells_eq (by simp only [Mem.set, hib, if_false]; exact h3) (by simp only [List.append_assoc])
  obtain ⟨μ0, hμ0⟩ : ∃ μ0, μ0 = (μ.set b (.cells (vis m k0))) := ⟨_, rfl⟩
  have hS : ∀ {μ' L'}, VStep m k0 (· = i) ws ws' μ0 L μ' L' → VStep m k0 (· = i) ws ws' μ L μ' L' := by intro μ' L' h; rw [hμ0] at h; exact h.box hb h6.ne
  rw [← hμ0] at g0 gb0 S0 ⊢
  -- field 1
  have a1 : (A).length = off + 0 := by first | omega | (simp only [List.length_append]; omega)
  refine aw_draw (by decide) (fun _ _ _ h => h) ?_
  simp only [wkB, wkC, kernP, rd, rds, reduceIte, Nat.reduceEqDiff, Nat.reduceAdd, binop, intOp_mul, unop, shiftOp, strOp, isNil, fillElems, fillParts, elemZero, FQ, LeaveA, resA, resPV, resPVs, PV.fits, PV.flat, PV.leaf, Nat.reduceBEq, Nat.reduceLT, Nat.reduceLeDiff, Int.reduceLT, Int.reduceLE, Int.reduceToNat, vis_len, vis_take, gb0, Nat.add_zero, Nat.add_assoc]
  refine nums_ok (n := 0) (off := off + 0) (A := A) (B := (c2 ++ (c3 ++ (c4 ++ (c5 ++ (cs ++ B)))))) h1 g0 a1 q1 (by decide) S0.vs p1 ?_
  intro d1 μ1 L1 o1 g1 s1
  have S1 := S0.trans s1
  have gb1 : μ1 b = some (.cells (vis m k0)) := by rw [s1.fr b hbk (fun h => hib h.symm) (by rw [gb0]; simp), gb0]
  simp only [wkB, wkC, kernP, rd, rds, reduceIte, Nat.reduceEqDiff, Nat.reduceAdd, binop, intOp_mul, unop, shiftOp, strOp, isNil, fillElems, fillParts, elemZero, FQ, LeaveA, resA, resPV, resPVs, PV.fits, PV.flat, PV.leaf, Nat.reduceBEq, Nat.reduceLT, Nat.reduceLeDiff, Int.reduceLT, Int.reduceLE, Int.reduceToNat]
  have l1 : d1.length = 1 := o1.length
  replace g1 := cells_eq g1 (Y := A ++ d1 ++ c2 ++ (c3 ++ (c4 ++ (c5 ++ (cs ++ B))))) (by simp only [List.append_assoc])
  -- field 2
  have a2 : (A ++ d1).length = off + 1 := by first | omega | (simp only [List.length_append]; omega)
  refine aw_draw (by decide) (fun _ _ _ h => h) ?_
  simp only [wkB, wkC, kernP, rd, rds, reduceIte, Nat.reduceEqDiff, Nat.reduceAdd, binop, intOp_mul, unop, shiftOp, strOp, isNil, fillElems, fillParts, elemZero, FQ, LeaveA, resA, resPV, resPVs, PV.fits, PV.flat, PV.leaf, Nat.reduceBEq, Nat.reduceLT, Nat.reduceLeDiff, Int.reduceLT, Int.reduceLE, Int.reduceToNat, vis_len, vis_take, gb1, Nat.add_zero, Nat.add_assoc]
  refine bytes_ok m k0 i _ (A ++ d1) c2 (c3 ++ (c4 ++ (c5 ++ (cs ++ B)))) _ _ _ _ _ _ _ _ h1 g1 a2 q2 S1.vs p2 ?_
  intro d2 μ2 L2 o2 g2 s2
  have S2 := S1.trans s2
  have gb2 : μ2 b = some (.cells (vis m k0)) := by rw [s2.fr b hbk (fun h => hib h.symm) (by rw [gb1]; simp), gb1]
  simp only [wkB, wkC, kernP, rd, rds, reduceIte, Nat.reduceEqDiff, Nat.reduceAdd, binop, intOp_mul, unop, shiftOp, strOp, isNil, fillElems, fillParts, elemZero, FQ, LeaveA, resA, resPV, resPVs, PV.fits, PV.flat, PV.leaf, Nat.reduceBEq, Nat.reduceLT, Nat.reduceLeDiff, Int.reduceLT, Int.reduceLE, Int.reduceToNat]
  have l2 : d2.length = 1 := o2.length
  replace g2 := cells_eq g2 (Y := A ++ d1 ++ d2 ++ c3 ++ (c4 ++ (c5 ++ (cs ++ B)))) (by simp only [List.append_assoc])
  -- field 3
  have a3 : (A ++ d1 ++ d2).length = off + 2 := by first | omega | (simp only [List.length_append]; omega)
  refine aw_draw (by decide) (fun _ _ _ h => h) ?_
  simp only [wkB, wkC, kernP, rd, rds, reduceIte, Nat.reduceEqDiff, Nat.reduceAdd, binop, intOp_mul, unop, shiftOp, strOp, isNil, fillElems, fillParts, elemZero, FQ, LeaveA, resA, resPV, resPVs, PV.fits, PV.flat, PV.leaf, Nat.reduceBEq, Nat.reduceLT, Nat.reduceLeDiff, Int.reduceLT, Int.reduceLE, Int.reduceToNat, vis_len, vis_take, gb2, Nat.add_zero, Nat.add_assoc]
  refine ints_ok m k0 i _ (A ++ d1 ++ d2) c3 (c4 ++ (c5 ++ (cs ++ B))) _ _ _ _ _ _ _ _ h1 g2 a3 q3 S2.vs p3 ?_
  intro d3 μ3 L3 o3 g3 s3
  have S3 := S2.trans s3
  have gb3 : μ3 b = some (.cells (vis m k0)) := by rw [s3.fr b hbk (fun h => hib h.symm) (by rw [gb2]; simp), gb2]
  simp only [wkB, wkC, kernP, rd, rds, reduceIte, Nat.reduceEqDiff, Nat.reduceAdd, binop, intOp_mul, unop, shiftOp, strOp, isNil, fillElems, fillParts, elemZero, FQ, LeaveA, resA, resPV, resPVs, PV.fits, PV.flat, PV.leaf, Nat.reduceBEq, Nat.reduceLT, Nat.reduceLeDiff, Int.reduceLT, Int.reduceLE, Int.reduceToNat]
  have l3 : d3.length = 1 := o3.length
  replace g3 := cells_eq g3 (Y := A ++ d1 ++ d2 ++ d3 ++ c4 ++ (c5 ++ (cs ++ B))) (by simp only [List.append_assoc])
  -- field 4
  have a4 : (A ++ d1 ++ d2 ++ d3).length = off + 3 := by first | omega | (simp only [List.length_append]; omega)
  refine aw_draw (by decide) (fun _ _ _ h => h) ?_
  obtain ⟨tk4, xs4, rfl, hx4⟩ := q4
  have e4 := get_mid (cs := A ++ d1 ++ d2 ++ d3 ++ [PV.sl tk4 (Ty.size TSum) xs4] ++ (c5 ++ (cs ++ B))) rfl a4
  have z4 : off + 3 + 1 ≤ (A ++ d1 ++ d2 ++ d3 ++ [PV.sl tk4 (Ty.size TSum) xs4] ++ (c5 ++ (cs ++ B))).length := by simp only [List.length_append, List.length_cons, List.length_nil] at a4 ⊢; omega
  have u4 : ∀ d, spl (A ++ d1 ++ d2 ++ d3 ++ [PV.sl tk4 (Ty.size TSum) xs4] ++ (c5 ++ (cs ++ B))) (off + 3) 1 d = A ++ d1 ++ d2 ++ d3 ++ d ++ (c5 ++ (cs ++ B)) := fun d => spl_mid' rfl a4 rfl
  generalize A ++ d1 ++ d2 ++ d3 ++ [PV.sl tk4 (Ty.size TSum) xs4] ++ (c5 ++ (cs ++ B)) = C4 at g3 e4 z4 u4
  simp only [wkB, wkC, kernP, rd, rds, reduceIte, Nat.reduceEqDiff, Nat.reduceAdd, binop, intOp_mul, unop, shiftOp, strOp, isNil, fillElems, fillParts, elemZero, FQ, LeaveA, resA, resPV, resPVs, PV.fits, PV.flat, PV.leaf, Nat.reduceBEq, Nat.reduceLT, Nat.reduceLeDiff, Int.reduceLT, Int.reduceLE, Int.reduceToNat, vis_len, vis_take, gb3, g3, e4, Nat.add_zero, Nat.add_assoc]
  refine list_ok (T := TSum) (bs := []) (fn64.of_erase rfl) (fn139.of_erase rfl) (by decide) (EachOk.of_vis sum_ok m k0) S3.vs (fun c hc => by simp at hc) hx4 p4 ?_
  intro ys4 ν4 L4 r4 s4
  have n4 : ν4 i = some (.cells C4) := by rw [s4.fr i h1 (fun h => h) (by rw [g3]; simp), g3]
  have m4 : ν4 b = some (.cells (vis m k0)) := by rw [s4.fr b hbk (fun h => h) (by rw [gb3]; simp), gb3]
  simp only [wkB, wkC, kernP, rd, rds, reduceIte, Nat.reduceEqDiff, Nat.reduceAdd, binop, intOp_mul, unop, shiftOp, strOp, isNil, fillElems, fillParts, elemZero, FQ, LeaveA, resA, resPV, resPVs, PV.fits, PV.flat, PV.leaf, Nat.reduceBEq, Nat.reduceLT, Nat.reduceLeDiff, Int.reduceLT, Int.reduceLE, Int.reduceToNat, n4, z4, u4, Nat.add_zero, Nat.add_assoc]
  obtain ⟨d4, hd4⟩ : ∃ d, d = [PV.sl .no (Ty.size TSum) ys4] := ⟨_, rfl⟩
  have o4 : Rep (.list TSum) d4 y4 := hd4 ▸ ⟨.no, ys4, rfl, r4⟩
  rw [← hd4]
  have S4 : VStep m k0 (· = i) ws ws4 μ0 L (ν4.set i (.cells (A ++ d1 ++ d2 ++ d3 ++ d4 ++ (c5 ++ (cs ++ B))))) L4 := S3.trans (s4.putAt h1)
  have g4 : (ν4.set i (.cells (A ++ d1 ++ d2 ++ d3 ++ d4 ++ (c5 ++ (cs ++ B))))) i = some (.cells (A ++ d1 ++ d2 ++ d3 ++ d4 ++ (c5 ++ (cs ++ B)))) := set_same
  have gb4 : (ν4.set i (.cells (A ++ d1 ++ d2 ++ d3 ++ d4 ++ (c5 ++ (cs ++ B))))) b = some (.cells (vis m k0)) := by simp only [Mem.set, hib.symm, if_false]; exact m4
  generalize ν4.set i (.cells (A ++ d1 ++ d2 ++ d3 ++ d4 ++ (c5 ++ (cs ++ B)))) = μ4 at S4 g4 gb4 ⊢
  have l4 : d4.length = 1 := o4.length
  replace g4 := cells_eq g4 (Y := A ++ d1 ++ d2 ++ d3 ++ d4 ++ c5 ++ (cs ++ B)) (by simp only [List.append_assoc])
  -- field 5
  have a5 : (A ++ d1 ++ d2 ++ d3 ++ d4).length = off + 4 := by first | omega | (simp only [List.length_append]; omega)
  refine aw_draw (by decide) (fun _ _ _ h => h) ?_
  obtain ⟨tk5, xs5, rfl, hx5⟩ := q5
  have e5 := get_mid (cs := A ++ d1 ++ d2 ++ d3 ++ d4 ++ [PV.sl tk5 (Ty.size (.nums 9)) xs5] ++ (cs ++ B)) rfl a5
  have z5 : off + 4 + 1 ≤ (A ++ d1 ++ d2 ++ d3 ++ d4 ++ [PV.sl tk5 (Ty.size (.nums 9)) xs5] ++ (cs ++ B)).length := by simp only [List.length_append, List.length_cons, List.length_nil] at a5 ⊢; omega
  have u5 : ∀ d, spl (A ++ d1 ++ d2 ++ d3 ++ d4 ++ [PV.sl tk5 (Ty.size (.nums 9)) xs5] ++ (cs ++ B)) (off + 4) 1 d = A ++ d1 ++ d2 ++ d3 ++ d4 ++ d ++ (cs ++ B) := fun d => spl_mid' rfl a5 rfl
  generalize A ++ d1 ++ d2 ++ d3 ++ d4 ++ [PV.sl tk5 (Ty.size (.nums 9)) xs5] ++ (cs ++ B) = C5 at g4 e5 z5 u5
  simp only [wkB, wkC, kernP, rd, rds, reduceIte, Nat.reduceEqDiff, Nat.reduceAdd, binop, intOp_mul, unop, shiftOp, strOp, isNil, fillElems, fillParts, elemZero, FQ, LeaveA, resA, resPV, resPVs, PV.fits, PV.flat, PV.leaf, Nat.reduceBEq, Nat.reduceLT, Nat.reduceLeDiff, Int.reduceLT, Int.reduceLE, Int.reduceToNat, vis_len, vis_take, gb4, g4, e5, Nat.add_zero, Nat.add_assoc]
  refine list_ok (T := (.nums 9)) (bs := [b]) (fn65.of_erase rfl) (fn140.of_erase rfl) (by decide) (box66_ok m k0 b) S4.vs (fun c hc => by simp at hc; subst hc; exact ⟨hbk, gb4⟩) hx5 p5 ?_
  intro ys5 ν5 L5 r5 s5
  have n5 : ν5 i = some (.cells C5) := by rw [s5.fr i h1 (fun h => h) (by rw [g4]; simp), g4]
  have m5 : ν5 b = some (.cells (vis m k0)) := by rw [s5.fr b hbk (fun h => h) (by rw [gb4]; simp), gb4]
  simp only [wkB, wkC, kernP, rd, rds, reduceIte, Nat.reduceEqDiff, Nat.reduceAdd, binop, intOp_mul, unop, shiftOp, strOp, isNil, fillElems, fillParts, elemZero, FQ, LeaveA, resA, resPV, resPVs, PV.fits, PV.flat, PV.leaf, Nat.reduceBEq, Nat.reduceLT, Nat.reduceLeDiff, Int.reduceLT, Int.reduceLE, Int.reduceToNat, n5, z5, u5, Nat.add_zero, Nat.add_assoc]
  obtain ⟨d5, hd5⟩ : ∃ d, d = [PV.sl .no (Ty.size (.nums 9)) ys5] := ⟨_, rfl⟩
  have o5 : Rep (.list (.nums 9)) d5 y5 := hd5 ▸ ⟨.no, ys5, rfl, r5⟩
  rw [← hd5]
  have S5 : VStep m k0 (· = i) ws ws5 μ0 L (ν5.set i (.cells (A ++ d1 ++ d2 ++ d3 ++ d4 ++ d5 ++ (cs ++ B)))) L5 := S4.trans (s5.putAt h1)
  have g5 : (ν5.set i (.cells (A ++ d1 ++ d2 ++ d3 ++ d4 ++ d5 ++ (cs ++ B)))) i = some (.cells (A ++ d1 ++ d2 ++ d3 ++ d4 ++ d5 ++ (cs ++ B))) := set_same
  have gb5 : (ν5.set i (.cells (A ++ d1 ++ d2 ++ d3 ++ d4 ++ d5 ++ (cs ++ B)))) b = some (.cells (vis m k0)) := by simp only [Mem.set, hib.symm, if_false]; exact m5
  generalize ν5.set i (.cells (A ++ d1 ++ d2 ++ d3 ++ d4 ++ d5 ++ (cs ++ B))) = μ5 at S5 g5 gb5 ⊢
  have l5 : d5.length = 1 := o5.length
  replace g5 := cells_eq g5 (Y := A ++ d1 ++ d2 ++ d3 ++ d4 ++ d5 ++ cs ++ B) (by simp only [List.append_assoc])
  -- field 6
  have a6 : (A ++ d1 ++ d2 ++ d3 ++ d4 ++ d5).length = off + 5 := by first | omega | (simp only [List.length_append]; omega)
  refine aw_draw (by decide) (fun _ _ _ h => h) ?_
  simp only [wkB, wkC, kernP, rd, rds, reduceIte, Nat.reduceEqDiff, Nat.reduceAdd, binop, intOp_mul, unop, shiftOp, strOp, isNil, fillElems, fillParts, elemZero, FQ, LeaveA, resA, resPV, resPVs, PV.fits, PV.flat, PV.leaf, Nat.reduceBEq, Nat.reduceLT, Nat.reduceLeDiff, Int.reduceLT, Int.reduceLE, Int.reduceToNat, vis_len, vis_take, gb5, Nat.add_zero, Nat.add_assoc]
  refine nums_ok (n := 0) (off := off + 5) (A := A ++ d1 ++ d2 ++ d3 ++ d4 ++ d5) (B := B) h1 g5 a6 h5 (by decide) S5.vs H5 ?_
  intro d6 μ6 L6 o6 g6 s6
  have S6 := S5.trans s6
  have gb6 : μ6 b = some (.cells (vis m k0)) := by rw [s6.fr b hbk (fun h => hib h.symm) (by rw [gb5]; simp), gb5]
  simp only [wkB, wkC, kernP, rd, rds, reduceIte, Nat.reduceEqDiff, Nat.reduceAdd, binop, intOp_mul, unop, shiftOp, strOp, isNil, fillElems, fillParts, elemZero, FQ, LeaveA, resA, resPV, resPVs, PV.fits, PV.flat, PV.leaf, Nat.reduceBEq, Nat.reduceLT, Nat.reduceLeDiff, Int.reduceLT, Int.reduceLE, Int.reduceToNat]
  have l6 : d6.length = 1 := o6.length
  exact ⟨_, rfl, hK _ _ _ ⟨_, _, rfl, o1, ⟨_, _, rfl, o2, ⟨_, _, rfl, o3, ⟨_, _, rfl, o4, ⟨_, _, rfl, o5, o6⟩⟩⟩⟩⟩ (cells_eq g6 (by simp only [List.append_assoc])) (hS S6)⟩

theorem ventry_ok : VisOk TEntry 15 := by
  intro m k0 i off A cs B v v' ws ws' μ L K KP h1 h3 h4 h5 h6 h8 hK
  obtain ⟨x1, v⟩ := v
  obtain ⟨c1, cs, rfl, q1, h5⟩ := h5
  obtain ⟨y1, V1, ws1, p1, H1, eV1⟩ := visit_pair h8
  subst eV1
  obtain ⟨x2, v⟩ := v
  obtain ⟨c2, cs, rfl, q2, h5⟩ := h5
  obtain ⟨y2, V2, ws2, p2, H2, eV2⟩ := visit_pair H1
  subst eV2
  obtain ⟨x3, v⟩ := v
  obtain ⟨c3, cs, rfl, q3, h5⟩ := h5
  obtain ⟨y3, V3, ws3, p3, H3, eV3⟩ := visit_pair H2
  subst eV3
  obtain ⟨x4, v⟩ := v
  obtain ⟨c4, cs, rfl, q4, h5⟩ := h5
  obtain ⟨y4, V4, ws4, p4, H4, eV4⟩ := visit_pair H3
  subst eV4
  obtain ⟨x5, v⟩ := v
  obtain ⟨c5, cs, rfl, q5, h5⟩ := h5
  obtain ⟨y5, V5, ws5, p5, H5, eV5⟩ := visit_pair H4
  subst eV5
  obtain ⟨x6, v⟩ := v
  obtain ⟨c6, cs, rfl, q6, h5⟩ := h5
  obtain ⟨y6, V6, ws6, p6, H6, eV6⟩ := visit_pair H5
  subst eV6
  refine acall_of_aw mix fn15 (by simp) ?_
  unfold ac15
  have hfit := vis_fits m k0
  simp only [PV.fits, PV.flat] at hfit
  simp only [wkB, wkC, kernP, rd, rds, reduceIte, Nat.reduceEqDiff, Nat.reduceAdd, binop, intOp_mul, unop, shiftOp, strOp, isNil, fillElems, fillParts, elemZero, FQ, LeaveA, resA, resPV, resPVs, PV.fits, PV.flat, PV.leaf, Nat.reduceBEq, Nat.reduceLT, Nat.reduceLeDiff, Int.reduceLT, Int.reduceLE, Int.reduceToNat, hfit]
  intro b hb
  have hib : i ≠ b := fun e => by rw [e, hb.1] at h3; cases h3
  have hbk : b ≠ k0 := fun e => h6.ne (e ▸ hb.1)
  have S0 : VStep m k0 (· = i) ws ws (μ.set b (.cells (vis m k0))) L (μ.set b (.cells (vis m k0))) L := .refl (h6.box hb)
  have gb0 : (μ.set b (.cells (vis m k0))) b = some (.cells (vis m k0)) := by simp [Mem.set]
  have g0 : (μ.set b (.cells (vis m k0))) i = some (.cells (A ++ c1 ++ (c2 ++ (c3 ++ (c4 ++ (c5 ++ (c6 ++ (cs ++ B)))))))) := cells_eq (by simp only [Mem.set, hib, if_false]; exact h3) (by simp only [List.append_assoc])
  obtain ⟨μ0, hμ0⟩ : ∃ μ0, μ0 = (μ.set b (.cells (vis m k0))) := ⟨_, rfl⟩
  have hS : ∀ {μ' L'}, VStep m k0 (· = i) ws ws' μ0 L μ' L' → VStep m k0 (· = i) ws ws' μ L μ' L' := by intro μ' L' h; rw [hμ0] at h; exact h.box hb h6.ne
  rw [← hμ0] at g0 gb0 S0 ⊢
  -- field 1
  have a1 : (A).length = off + 0 := by first | omega | (simp only [List.length_append]; omega)
  refine aw_draw (by decide) (fun _ _ _ h => h) ?_
  simp only [wkB, wkC, kernP, rd, rds, reduceIte, Nat.reduceEqDiff, Nat.reduceAdd, binop, intOp_mul, unop, shiftOp, strOp, isNil, fillElems, fillParts, elemZero, FQ, LeaveA, resA, resPV, resPVs, PV.fits, PV.flat, PV.leaf, Nat.reduceBEq, Nat.reduceLT, Nat.reduceLeDiff, Int.reduceLT, Int.reduceLE, Int.reduceToNat, vis_len, vis_take, gb0, Nat.add_zero, Nat.add_assoc]
  refine vneed_ok m k0 i _ (A) c1 (c2 ++ (c3 ++ (c4 ++ (c5 ++ (c6 ++ (cs ++ B)))))) _ _ _ _ _ _ _ _ h1 g0 a1 q1 S0.vs p1 ?_
  intro d1 μ1 L1 o1 g1 s1
  have S1 := S0.trans s1
  have gb1 : μ1 b = some (.cells (vis m k0)) := by rw [s1.fr b hbk (fun h => hib h.symm) (by rw [gb0]; simp), gb0]
  simp only [wkB, wkC, kernP, rd, rds, reduceIte, Nat.reduceEqDiff, Nat.reduceAdd, binop, intOp_mul, unop, shiftOp, strOp, isNil, fillElems, fillParts, elemZero, FQ, LeaveA, resA, resPV, resPVs, PV.fits, PV.flat, PV.leaf, Nat.reduceBEq, Nat.reduceLT, Nat.reduceLeDiff, Int.reduceLT, Int.reduceLE, Int.reduceToNat]
  have l1 : d1.length = 6 := o1.length
  replace g1 := cells_eq g1 (Y := A ++ d1 ++ c2 ++ (c3 ++ (c4 ++ (c5 ++ (c6 ++ (cs ++ B)))))) (by simp only [List.append_assoc])
  -- field 2
  have a2 : (A ++ d1).length = off + 6 := by first | omega | (simp only [List.length_append]; omega)
  refine aw_draw (by decide) (fun _ _ _ h => h) ?_
  simp only [wkB, wkC, kernP, rd, rds, reduceIte, Nat.reduceEqDiff, Nat.reduceAdd, binop, intOp_mul, unop, shiftOp, strOp, isNil, fillElems, fillParts, elemZero, FQ, LeaveA, resA, resPV, resPVs, PV.fits, PV.flat, PV.leaf, Nat.reduceBEq, Nat.reduceLT, Nat.reduceLeDiff, Int.reduceLT, Int.reduceLE, Int.reduceToNat, vis_len, vis_take, gb1, Nat.add_zero, Nat.add_assoc]
  refine nums_ok (n := 0) (off := off + 6) (A := A ++ d1) (B := (c3 ++ (c4 ++ (c5 ++ (c6 ++ (cs ++ B)))))) h1 g1 a2 q2 (by decide) S1.vs p2 ?_
  intro d2 μ2 L2 o2 g2 s2
  have S2 := S1.trans s2
  have gb2 : μ2 b = some (.cells (vis m k0)) := by rw [s2.fr b hbk (fun h => hib h.symm) (by rw [gb1]; simp), gb1]
  simp only [wkB, wkC, kernP, rd, rds, reduceIte, Nat.reduceEqDiff, Nat.reduceAdd, binop, intOp_mul, unop, shiftOp, strOp, isNil, fillElems, fillParts, elemZero, FQ, LeaveA, resA, resPV, resPVs, PV.fits, PV.flat, PV.leaf, Nat.reduceBEq, Nat.reduceLT, Nat.reduceLeDiff, Int.reduceLT, Int.reduceLE, Int.reduceToNat]
  have l2 : d2.length = 1 := o2.length
  replace g2 := cells_eq g2 (Y := A ++ d1 ++ d2 ++ c3 ++ (c4 ++ (c5 ++ (c6 ++ (cs ++ B))))) (by simp only [List.append_assoc])
  -- field 3
  have a3 : (A ++ d1 ++ d2).length = off + 7 := by first | omega | (simp only [List.length_append]; omega)
  refine aw_draw (by decide) (fun _ _ _ h => h) ?_
  obtain ⟨tk3, xs3, rfl, hx3⟩ := q3
  have e3 := get_mid (cs := A ++ d1 ++ d2 ++ [PV.sl tk3 (Ty.size TFact) xs3] ++ (c4 ++ (c5 ++ (c6 ++ (cs ++ B))))) rfl a3
  have z3 : off + 7 + 1 ≤ (A ++ d1 ++ d2 ++ [PV.sl tk3 (Ty.size TFact) xs3] ++ (c4 ++ (c5 ++ (c6 ++ (cs ++ B))))).length := by simp only [List.length_append, List.length_cons, List.length_nil] at a3 ⊢; omega
  have u3 : ∀ d, spl (A ++ d1 ++ d2 ++ [PV.sl tk3 (Ty.size TFact) xs3] ++ (c4 ++ (c5 ++ (c6 ++ (cs ++ B))))) (off + 7) 1 d = A ++ d1 ++ d2 ++ d ++ (c4 ++ (c5 ++ (c6 ++ (cs ++ B)))) := fun d => spl_mid' rfl a3 rfl
  generalize A ++ d1 ++ d2 ++ [PV.sl tk3 (Ty.size TFact) xs3] ++ (c4 ++ (c5 ++ (c6 ++ (cs ++ B)))) = C3 at g2 e3 z3 u3
  simp only [wkB, wkC, kernP, rd, rds, reduceIte, Nat.reduceEqDiff, Nat.reduceAdd, binop, intOp_mul, unop, shiftOp, strOp, isNil, fillElems, fillParts, elemZero, FQ, LeaveA, resA, resPV, resPVs, PV.fits, PV.flat, PV.leaf, Nat.reduceBEq, Nat.reduceLT, Nat.reduceLeDiff, Int.reduceLT, Int.reduceLE, Int.reduceToNat, vis_len, vis_take, gb2, g2, e3, Nat.add_zero, Nat.add_assoc]
  refine list_ok (T := TFact) (bs := []) (fn28.of_erase rfl) (fn68.of_erase rfl) (by decide) (EachOk.of_vis fact_ok m k0) S2.vs (fun c hc => by simp at hc) hx3 p3 ?_
  intro ys3 ν3 L3 r3 s3
  have n3 : ν3 i = some (.cells C3) := by rw [s3.fr i h1 (fun h => h) (by rw [g2]; simp), g2]
  have m3 : ν3 b = some (.cells (vis m k0)) := by rw [s3.fr b hbk (fun h => h) (by rw [gb2]; simp), gb2]
  simp only [wkB, wkC, kernP, rd, rds, reduceIte, Nat.reduceEqDiff, Nat.reduceAdd, binop, intOp_mul, unop, shiftOp, strOp, isNil, fillElems, fillParts, elemZero, FQ, LeaveA, resA, resPV, resPVs, PV.fits, PV.flat, PV.leaf, Nat.reduceBEq, Nat.reduceLT, Nat.reduceLeDiff, Int.reduceLT, Int.reduceLE, Int.reduceToNat, n3, z3, u3, Nat.add_zero, Nat.add_assoc]
  obtain ⟨d3, hd3⟩ : ∃ d, d = [PV.sl .no (Ty.size TFact) ys3] := ⟨_, rfl⟩
  have o3 : Rep (.list TFact) d3 y3 := hd3 ▸ ⟨.no, ys3, rfl, r3⟩
  rw [← hd3]
  have S3 : VStep m k0 (· = i) ws ws3 μ0 L (ν3.set i (.cells (A ++ d1 ++ d2 ++ d3 ++ (c4 ++ (c5 ++ (c6 ++ (cs ++ B))))))) L3 := S2.trans (s3.putAt h1)
  have g3 : (ν3.set i (.cells (A ++ d1 ++ d2 ++ d3 ++ (c4 ++ (c5 ++ (c6 ++ (cs ++ B))))))) i = some (.cells (A ++ d1 ++ d2 ++ d3 ++ (c4 ++ (c5 ++ (c6 ++ (cs ++ B)))))) := set_same
  have gb3 : (ν3.set i (.cells (A ++ d1 ++ d2 ++ d3 ++ (c4 ++ (c5 ++ (c6 ++ (cs ++ B))))))) b = some (.cells (vis m k0)) := by simp only [Mem.set, hib.symm, if_false]; exact m3
  generalize ν3.set i (.cells (A ++ d1 ++ d2 ++ d3 ++ (c4 ++ (c5 ++ (c6 ++ (cs ++ B)))))) = μ3 at S3 g3 gb3 ⊢
  have l3 : d3.length = 1 := o3.length
  replace g3 := cells_eq g3 (Y := A ++ d1 ++ d2 ++ d3 ++ c4 ++ (c5 ++ (c6 ++ (cs ++ B)))) (by simp only [List.append_assoc])
  -- field 4
  have a4 : (A ++ d1 ++ d2 ++ d3).length = off + 8 := by first | omega | (simp only [List.length_append]; omega)
  refine aw_draw (by decide) (fun _ _ _ h => h) ?_
  simp only [wkB, wkC, kernP, rd, rds, reduceIte, Nat.reduceEqDiff, Nat.reduceAdd, binop, intOp_mul, unop, shiftOp, strOp, isNil, fillElems, fillParts, elemZero, FQ, LeaveA, resA, resPV, resPVs, PV.fits, PV.flat, PV.leaf, Nat.reduceBEq, Nat.reduceLT, Nat.reduceLeDiff, Int.reduceLT, Int.reduceLE, Int.reduceToNat, vis_len, vis_take, gb3, Nat.add_zero, Nat.add_assoc]
  refine sum_ok m k0 i _ (A ++ d1 ++ d2 ++ d3) c4 (c5 ++ (c6 ++ (cs ++ B))) _ _ _ _ _ _ _ _ h1 g3 a4 q4 S3.vs p4 ?_
  intro d4 μ4 L4 o4 g4 s4
  have S4 := S3.trans s4
  have gb4 : μ4 b = some (.cells (vis m k0)) := by rw [s4.fr b hbk (fun h => hib h.symm) (by rw [gb3]; simp), gb3]
  simp only [wkB, wkC, kernP, rd, rds, reduceIte, Nat.reduceEqDiff, Nat.reduceAdd, binop, intOp_mul, unop, shiftOp, strOp, isNil, fillElems, fillParts, elemZero, FQ, LeaveA, resA, resPV, resPVs, PV.fits, PV.flat, PV.leaf, Nat.reduceBEq, Nat.reduceLT, Nat.reduceLeDiff, Int.reduceLT, Int.reduceLE, Int.reduceToNat]
  have l4 : d4.length = 11 := o4.length
  replace g4 := cells_eq g4 (Y := A ++ d1 ++ d2 ++ d3 ++ d4 ++ c5 ++ (c6 ++ (cs ++ B))) (by simp only [List.append_assoc])
  -- field 5
  have a5 : (A ++ d1 ++ d2 ++ d3 ++ d4).length = off + 19 := by first | omega | (simp only [List.length_append]; omega)
  refine aw_draw (by decide) (fun _ _ _ h => h) ?_
  obtain ⟨tk5, xs5, rfl, hx5⟩ := q5
  have e5 := get_mid (cs := A ++ d1 ++ d2 ++ d3 ++ d4 ++ [PV.sl tk5 (Ty.size (.nums 2)) xs5] ++ (c6 ++ (cs ++ B))) rfl a5
  have z5 : off + 19 + 1 ≤ (A ++ d1 ++ d2 ++ d3 ++ d4 ++ [PV.sl tk5 (Ty.size (.nums 2)) xs5] ++ (c6 ++ (cs ++ B))).length := by simp only [List.length_append, List.length_cons, List.length_nil] at a5 ⊢; omega
  have u5 : ∀ d, spl (A ++ d1 ++ d2 ++ d3 ++ d4 ++ [PV.sl tk5 (Ty.size (.nums 2)) xs5] ++ (c6 ++ (cs ++ B))) (off + 19) 1 d = A ++ d1 ++ d2 ++ d3 ++ d4 ++ d ++ (c6 ++ (cs ++ B)) := fun d => spl_mid' rfl a5 rfl
  generalize A ++ d1 ++ d2 ++ d3 ++ d4 ++ [PV.sl tk5 (Ty.size (.nums 2)) xs5] ++ (c6 ++ (cs ++ B)) = C5 at g4 e5 z5 u5
  simp only [wkB, wkC, kernP, rd, rds, reduceIte, Nat.reduceEqDiff, Nat.reduceAdd, binop, intOp_mul, unop, shiftOp, strOp, isNil, fillElems, fillParts, elemZero, FQ, LeaveA, resA, resPV, resPVs, PV.fits, PV.flat, PV.leaf, Nat.reduceBEq, Nat.reduceLT, Nat.reduceLeDiff, Int.reduceLT, Int.reduceLE, Int.reduceToNat, vis_len, vis_take, gb4, g4, e5, Nat.add_zero, Nat.add_assoc]
  refine list_ok (T := (.nums 2)) (bs := [b]) (fn31.of_erase rfl) (fn75.of_erase rfl) (by decide) (box32_ok m k0 b) S4.vs (fun c hc => by simp at hc; subst hc; exact ⟨hbk, gb4⟩) hx5 p5 ?_
  intro ys5 ν5 L5 r5 s5
  have n5 : ν5 i = some (.cells C5) := by rw [s5.fr i h1 (fun h => h) (by rw [g4]; simp), g4]
  have m5 : ν5 b = some (.cells (vis m k0)) := by rw [s5.fr b hbk (fun h => h) (by rw [gb4]; simp), gb4]
  simp only [wkB, wkC, kernP, rd, rds, reduceIte, Nat.reduceEqDiff, Nat.reduceAdd, binop, intOp_mul, unop, shiftOp, strOp, isNil, fillElems, fillParts, elemZero, FQ, LeaveA, resA, resPV, resPVs, PV.fits, PV.flat, PV.leaf, Nat.reduceBEq, Nat.reduceLT, Nat.reduceLeDiff, Int.reduceLT, Int.reduceLE, Int.reduceToNat, n5, z5, u5, Nat.add_zero, Nat.add_assoc]
  obtain ⟨d5, hd5⟩ : ∃ d, d = [PV.sl .no (Ty.size (.nums 2)) ys5] := ⟨_, rfl⟩
  have o5 : Rep (.list (.nums 2)) d5 y5 := hd5 ▸ ⟨.no, ys5, rfl, r5⟩
  rw [← hd5]
  have S5 : VStep m k0 (· = i) ws ws5 μ0 L (ν5.set i (.cells (A ++ d1 ++ d2 ++ d3 ++ d4 ++ d5 ++ (c6 ++ (cs ++ B))))) L5 := S4.trans (s5.putAt h1)
  have g5 : (ν5.set i (.cells (A ++ d1 ++ d2 ++ d3 ++ d4 ++ d5 ++ (c6 ++ (cs ++ B))))) i = some (.cells (A ++ d1 ++ d2 ++ d3 ++ d4 ++ d5 ++ (c6 ++ (cs ++ B)))) := set_same
  have gb5 : (ν5.set i (.cells (A ++ d1 ++ d2 ++ d3 ++ d4 ++ d5 ++ (c6 ++ (cs ++ B))))) b = some (.cells (vis m k0)) := by simp only [Mem.set, hib.symm, if_false]; exact m5
  generalize ν5.set i (.cells (A ++ d1 ++ d2 ++ d3 ++ d4 ++ d5 ++ (c6 ++ (cs ++ B)))) = μ5 at S5 g5 gb5 ⊢
  have l5 : d5.length = 1 := o5.length
  replace g5 := cells_eq g5 (Y := A ++ d1 ++ d2 ++ d3 ++ d4 ++ d5 ++ c6 ++ (cs ++ B)) (by simp only [List.append_assoc])
  -- field 6
  have a6 : (A ++ d1 ++ d2 ++ d3 ++ d4 ++ d5).length = off + 20 := by first | omega | (simp only [List.length_append]; omega)
  refine aw_draw (by decide) (fun _ _ _ h => h) ?_
  simp only [wkB, wkC, kernP, rd, rds, reduceIte, Nat.reduceEqDiff, Nat.reduceAdd, binop, intOp_mul, unop, shiftOp, strOp, isNil, fillElems, fillParts, elemZero, FQ, LeaveA, resA, resPV, resPVs, PV.fits, PV.flat, PV.leaf, Nat.reduceBEq, Nat.reduceLT, Nat.reduceLeDiff, Int.reduceLT, Int.reduceLE, Int.reduceToNat, vis_len, vis_take, gb5, Nat.add_zero, Nat.add_assoc]
  refine pairs_ok m k0 i _ (A ++ d1 ++ d2 ++ d3 ++ d4 ++ d5) c6 (cs ++ B) _ _ _ _ _ _ _ _ h1 g5 a6 q6 S5.vs p6 ?_
  intro d6 μ6 L6 o6 g6 s6
  have S6 := S5.trans s6
  have gb6 : μ6 b = some (.cells (vis m k0)) := by rw [s6.fr b hbk (fun h => hib h.symm) (by rw [gb5]; simp), gb5]
  simp only [wkB, wkC, kernP, rd, rds, reduceIte, Nat.reduceEqDiff, Nat.reduceAdd, binop, intOp_mul, unop, shiftOp, strOp, isNil, fillElems, fillParts, elemZero, FQ, LeaveA, resA, resPV, resPVs, PV.fits, PV.flat, PV.leaf, Nat.reduceBEq, Nat.reduceLT, Nat.reduceLeDiff, Int.reduceLT, Int.reduceLE, Int.reduceToNat]
  have l6 : d6.length = 1 := o6.length
  replace g6 := cells_eq g6 (Y := A ++ d1 ++ d2 ++ d3 ++ d4 ++ d5 ++ d6 ++ cs ++ B) (by simp only [List.append_assoc])
  -- field 7
  have a7 : (A ++ d1 ++ d2 ++ d3 ++ d4 ++ d5 ++ d6).length = off + 21 := by first | omega | (simp only [List.length_append]; omega)
  refine aw_draw (by decide) (fun _ _ _ h => h) ?_
  simp only [wkB, wkC, kernP, rd, rds, reduceIte, Nat.reduceEqDiff, Nat.reduceAdd, binop, intOp_mul, unop, shiftOp, strOp, isNil, fillElems, fillParts, elemZero, FQ, LeaveA, resA, resPV, resPVs, PV.fits, PV.flat, PV.leaf, Nat.reduceBEq, Nat.reduceLT, Nat.reduceLeDiff, Int.reduceLT, Int.reduceLE, Int.reduceToNat, vis_len, vis_take, gb6, Nat.add_zero, Nat.add_assoc]
  refine ints_ok m k0 i _ (A ++ d1 ++ d2 ++ d3 ++ d4 ++ d5 ++ d6) cs B _ _ _ _ _ _ _ _ h1 g6 a7 h5 S6.vs H6 ?_
  intro d7 μ7 L7 o7 g7 s7
  have S7 := S6.trans s7
  have gb7 : μ7 b = some (.cells (vis m k0)) := by rw [s7.fr b hbk (fun h => hib h.symm) (by rw [gb6]; simp), gb6]
  simp only [wkB, wkC, kernP, rd, rds, reduceIte, Nat.reduceEqDiff, Nat.reduceAdd, binop, intOp_mul, unop, shiftOp, strOp, isNil, fillElems, fillParts, elemZero, FQ, LeaveA, resA, resPV, resPVs, PV.fits, PV.flat, PV.leaf, Nat.reduceBEq, Nat.reduceLT, Nat.reduceLeDiff, Int.reduceLT, Int.reduceLE, Int.reduceToNat]
  have l7 : d7.length = 1 := o7.length
  exact ⟨_, rfl, hK _ _ _ ⟨_, _, rfl, o1, ⟨_, _, rfl, o2, ⟨_, _, rfl, o3, ⟨_, _, rfl, o4, ⟨_, _, rfl, o5, ⟨_, _, rfl, o6, o7⟩⟩⟩⟩⟩⟩ (cells_eq g7 (by simp only [List.append_assoc])) (hS S7)⟩

end Go.Bm

/- Encode. -/
namespace Go.Bm
open Go Go.Proofs

/-- The bytes of an entry. -/
noncomputable def encB (ws : List Int) : List PV := leB ws.length 8 ++ ws.flatMap (fun w => leB w 8) ++ leB (IntKind.wrap .i64 (wordsI ws)) 8

/-- What was there stands; the tokens live on. -/
def Keeps (μ : Mem) (L : Lv) (μ' : Mem) (L' : Lv) (tk : Tok) : Prop := (∀ x, μ x ≠ none → μ' x = μ x) ∧ Liv L' tk ∧ ∀ c, L c → L' c ∧ tk ≠ .tk c

theorem leB_len (n : Int) : (leB n 8).length = 8 := by simp [leB]

theorem flatMap_leB_len (ws : List Int) : (ws.flatMap (fun w => leB w 8)).length = 8 * ws.length := by
  induction ws with
  | nil => rfl
  | cons w ws ih => rw [List.flatMap_cons, List.length_append, ih, leB_len, List.length_cons]; omega

theorem encode_ok {cs : List PV} {v v' : TEntry.den} {ws : List Int} {μ : Mem} {L : Lv} {K KP : KA} (hr : Rep TEntry cs v) (hv : visit .enc TEntry v [] = some (v', ws))
    (hK : ∀ tk' μ' L', Keeps μ L μ' L' tk' → K (.sl tk' 1 (encB ws)) μ' L') : ACall Tryz.prog 6 [.agg cs] μ L K KP := by
  refine acall_of_aw mix fn6 (by simp) ?_
  unfold ac6
  have hl : cs.length = 22 := hr.length
  have hlv : cs.all PV.leaf = true := List.all_eq_true.2 hr.leaves
  simp only [wkB, wkC, kernP, rd, rds, reduceIte, Nat.reduceEqDiff, Nat.reduceAdd, binop, intOp_mul, unop, shiftOp, strOp, isNil, fillElems, fillParts, elemZero, FQ, LeaveA, resA, resPV, resPVs, PV.fits, PV.flat, PV.leaf, Nat.reduceBEq, Nat.reduceLT, Nat.reduceLeDiff, Int.reduceLT, Int.reduceLE, Int.reduceToNat, hl, hlv]
  intro e1 he1 k0 hk0 e4 he4
  have hk1 : k0 ≠ e1 ∧ μ k0 = none := by
    have := hk0.1
    simp only [Mem.set] at this
    split at this
    · cases this
    · rename_i q; exact ⟨q, this⟩
  have h4 : e4 ≠ k0 ∧ e4 ≠ e1 ∧ μ e4 = none := by
    have := he4.1
    simp only [Mem.set] at this
    split at this
    · cases this
    · rename_i q
      split at this
      · cases this
      · rename_i q'; exact ⟨q, q', this⟩
  simp only [wkB, wkC, kernP, rd, rds, reduceIte, Nat.reduceEqDiff, Nat.reduceAdd, binop, intOp_mul, unop, shiftOp, strOp, isNil, fillElems, fillParts, elemZero, FQ, LeaveA, resA, resPV, resPVs, PV.fits, PV.flat, PV.leaf, Nat.reduceBEq, Nat.reduceLT, Nat.reduceLeDiff, Int.reduceLT, Int.reduceLE, Int.reduceToNat, spl]
  obtain ⟨M, hM⟩ : ∃ M, M = (((μ.set e1 (.cells cs)).set k0 (.cells [.sl .full 1 []])).set e4 (.cells [.nilf, .nilf])).set e4 (.cells [.fn 14 [] [.ptr k0 0], .nilf]) := ⟨_, rfl⟩
  rw [← hM]
  have Mold : ∀ z, μ z ≠ none → M z = μ z := by
    intro z hz
    have n1 : z ≠ e1 := fun e => hz (by rw [e]; exact he1.1)
    have n2 : z ≠ k0 := fun e => hz (by rw [e]; exact hk1.2)
    have n3 : z ≠ e4 := fun e => hz (by rw [e]; exact h4.2.2)
    rw [hM]; simp only [Mem.set, n1, n2, n3, if_false]
  have Me : M e1 = some (.cells cs) := by rw [hM]; simp [Mem.set, hk1.1.symm, h4.2.1.symm]
  have Mk : WS k0 .full [] M := by rw [hM]; simp [WS, Mem.set, h4.1.symm]
  refine ventry_ok .enc k0 e1 0 [] cs [] v v' [] ws M L _ _ hk1.1.symm (by simpa using Me) rfl hr ⟨by simp, .full, Mk, fun _ => .inl rfl⟩ hv ?_
  intro cs' μ1 L1 _ _ s1
  have hwl : ws.length ≤ 1099511627776 := s1.len
  obtain ⟨tk, tk1, q1, q2, q3, _⟩ := s1.st
  have etk : tk = .full := by unfold WS at q1 Mk; rw [Mk] at q1; simp at q1; exact q1.symm
  subst etk
  have q3 := q3 rfl
  have g : μ1 k0 = some (.cells [.sl tk1 1 (ints ws)]) := q2
  simp only [wkB, wkC, kernP, rd, rds, reduceIte, Nat.reduceEqDiff, Nat.reduceAdd, binop, intOp_mul, unop, shiftOp, strOp, isNil, fillElems, fillParts, elemZero, FQ, LeaveA, resA, resPV, resPVs, PV.fits, PV.flat, PV.leaf, Nat.reduceBEq, Nat.reduceLT, Nat.reduceLeDiff, Int.reduceLT, Int.reduceLE, Int.reduceToNat, g, List.length_map]
  refine put_ok (.inl rfl) (by simp) ?_
  intro tk2 L2 p2
  simp only [wkB, wkC, kernP, rd, rds, reduceIte, Nat.reduceEqDiff, Nat.reduceAdd, binop, intOp_mul, unop, shiftOp, strOp, isNil, fillElems, fillParts, elemZero, FQ, LeaveA, resA, resPV, resPVs, PV.fits, PV.flat, PV.leaf, Nat.reduceBEq, Nat.reduceLT, Nat.reduceLeDiff, Int.reduceLT, Int.reduceLE, Int.reduceToNat, g, List.length_map]
  refine aw_for ws.length (fun k t μ' L' df => ∃ tk', t 5 = .sl tk' 1 (leB ws.length 8 ++ (ws.take k).flatMap (fun w => leB w 8)) ∧ t 15 = .sl tk1 1 (ints ws) ∧ t 16 = .int .i64 ws.length ∧ t 17 = .int .i64 k ∧ t 3 = .ptr k0 0 ∧ μ' = μ1 ∧ df = [] ∧ TkS L1 .full L' tk') (by omega) ?_ ?_ ?_ ?_ (by decide)
  · rintro k t μ' L' df ⟨tk', t5, t15, t16, t17, t3, rfl, rfl, p⟩
    exact ⟨t17, t16⟩
  · refine ⟨tk2, ?_⟩
    simp only [wkB, wkC, kernP, rd, rds, reduceIte, Nat.reduceEqDiff, Nat.reduceAdd, binop, intOp_mul, unop, shiftOp, strOp, isNil, fillElems, fillParts, elemZero, FQ, LeaveA, resA, resPV, resPVs, PV.fits, PV.flat, PV.leaf, Nat.reduceBEq, Nat.reduceLT, Nat.reduceLeDiff, Int.reduceLT, Int.reduceLE, Int.reduceToNat, List.flatMap_nil]
    exact ⟨rfl, p2⟩
  · rintro t μ' L' df ⟨tk', t5, t15, t16, t17, t3, rfl, rfl, p⟩
    rw [List.take_length] at t5
    simp only [wkB, wkC, kernP, rd, rds, reduceIte, Nat.reduceEqDiff, Nat.reduceAdd, binop, intOp_mul, unop, shiftOp, strOp, isNil, fillElems, fillParts, elemZero, FQ, LeaveA, resA, resPV, resPVs, PV.fits, PV.flat, PV.leaf, Nat.reduceBEq, Nat.reduceLT, Nat.reduceLeDiff, Int.reduceLT, Int.reduceLE, Int.reduceToNat, t5, t3, g]
    refine words_ok (by omega) ?_
    simp only [wkB, wkC, kernP, rd, rds, reduceIte, Nat.reduceEqDiff, Nat.reduceAdd, binop, intOp_mul, unop, shiftOp, strOp, isNil, fillElems, fillParts, elemZero, FQ, LeaveA, resA, resPV, resPVs, PV.fits, PV.flat, PV.leaf, Nat.reduceBEq, Nat.reduceLT, Nat.reduceLeDiff, Int.reduceLT, Int.reduceLE, Int.reduceToNat, t5, t3]
    refine put_ok p.1 (by rw [List.length_append, leB_len, flatMap_leB_len]; omega) ?_
    intro tk3 L3 p3
    simp only [wkB, wkC, kernP, rd, rds, reduceIte, Nat.reduceEqDiff, Nat.reduceAdd, binop, intOp_mul, unop, shiftOp, strOp, isNil, fillElems, fillParts, elemZero, FQ, LeaveA, resA, resPV, resPVs, PV.fits, PV.flat, PV.leaf, Nat.reduceBEq, Nat.reduceLT, Nat.reduceLeDiff, Int.reduceLT, Int.reduceLE, Int.reduceToNat]
    refine ⟨_, rfl, hK _ _ _ ⟨?_, p3.1, ?_⟩⟩
    · intro x hx
      have n1 : x ≠ e1 := fun e => hx (by rw [e]; exact he1.1)
      have n2 : x ≠ k0 := fun e => hx (by rw [e]; exact hk1.2)
      rw [s1.fr x n2 n1 (by rw [Mold x hx]; exact hx), Mold x hx]
    · intro c hc
      obtain ⟨a1, a2⟩ := q3.2 c hc (by simp)
      obtain ⟨b1, b2⟩ := p.2 c a1 (by simp)
      exact p3.2 c b1 b2
  · rintro k t μ' L' df hk ⟨tk', t5, t15, t16, t17, t3, rfl, rfl, p⟩
    have c1 : (0 : Int) ≤ (k : Int) := by omega
    have c2 : (ints ws)[k]? = some (.int .i64 ws[k]) := by simp [hk]
    simp only [wkB, wkC, kernP, rd, rds, reduceIte, Nat.reduceEqDiff, Nat.reduceAdd, binop, intOp_mul, unop, shiftOp, strOp, isNil, fillElems, fillParts, elemZero, FQ, LeaveA, resA, resPV, resPVs, PV.fits, PV.flat, PV.leaf, Nat.reduceBEq, Nat.reduceLT, Nat.reduceLeDiff, Int.reduceLT, Int.reduceLE, Int.reduceToNat, t5, t15, t16, t17, t3, c1, c2]
    refine put_ok p.1 (by rw [List.length_append, leB_len, flatMap_leB_len, List.length_take]; omega) ?_
    intro tk3 L3 p3
    simp only [wkB, wkC, kernP, rd, rds, reduceIte, Nat.reduceEqDiff, Nat.reduceAdd, binop, intOp_mul, unop, shiftOp, strOp, isNil, fillElems, fillParts, elemZero, FQ, LeaveA, resA, resPV, resPVs, PV.fits, PV.flat, PV.leaf, Nat.reduceBEq, Nat.reduceLT, Nat.reduceLeDiff, Int.reduceLT, Int.reduceLE, Int.reduceToNat, t15, t16, t17, t3]
    refine ⟨tk3, ?_, p.trans p3⟩
    rw [List.take_add_one, List.getElem?_eq_getElem hk, Option.toList_some, List.flatMap_append]
    simp

end Go.Bm

/- record: what recovers. -/
namespace Go.Bm
open Go Go.Proofs

def seqL : Code → Code
  | .seq x _ => x
  | c => c
def seqR : Code → Code
  | .seq _ y => y
  | c => c
def regId : Code → Nat
  | .region i _ _ => i
  | _ => 0
def regOp (c : Code) : Oper := match c with
  | .region _ ops _ => ops.getD 0 default
  | _ => default
def opCall (o : Oper) : Call := match o.op with
  | .call c => c
  | _ => default
noncomputable def b80 : Code := Tryz.f80.body.getD .skip

def ac80R : ACode := .block 0 (.seq
  (.reg false [.mk (some 7) none (.isnil 2 false (.t 5)) []])
  (.cond (.t 7)
  (.reg false [.mk (some 2) none (.mv (.t 5)) []]) (.seq
  (.reg false [.mk (some 8) none (.tass 189 (.agg []) (.t 5)) [], .mk (some 9) none (.extr (.t 8) 1) [], .mk (some 10) none (.extr (.t 8) 0) []])
  (.cond (.t 9) (.seq
  (.reg false [.mk (some 3) none (.alloc []) [], .mk none none (.store 0 (.t 3) (.t 10)) []])
  (.reg false [.mk (some 11) none (.build TEntry.zeroCs []) [], .mk none none (.store 22 (.t 0) (.t 11)) [], .mk none none (.store 1 (.t 1) (.k (.int .i64 0))) []])) (.seq
  (.reg false [.mk (some 4) none (.mv (.t 5)) []])
  (.reg false [.mk (some 6) none (.mv (.t 4)) [], .mk none none (.pan (.t 6)) []]))))))

theorem fnR80 : FnIsR Tryz.prog 80 12 5 ac80R [] :=
  ⟨⟨Tryz.f80, regId (seqL b80), regOp (seqL b80), opCall (regOp (seqL b80)), seqR b80, Tryz.func80, by kernel_rfl, by kernel_rfl, by kernel_rfl, by kernel_rfl, by kernel_rfl, by kernel_rfl, by decide, Tryz.ntmps80, by kernel_rfl, by rw [Tryz.results80], by decide⟩⟩

theorem spl_all {c d : List PV} {n : Nat} (h : c.length = n) : spl c 0 n d = d := by simp [spl, ← h]
theorem set_set {μ : Mem} {i : Nat} {a b : AObj} : (μ.set i a).set i b = μ.set i b := by funext j; simp only [Mem.set]; split <;> rfl

theorem rec_none {r2 r3 : Nat} {μ : Mem} {L : Lv} {K : Option PV → Mem → Lv → Prop} (hK : K none μ L) : ADCall Tryz.prog 80 [.ptr r2 0, .ptr r3 0] none μ L K := by
  refine adcall_of_aw mix fnR80 (by simp) ?_
  unfold ac80R
  simp only [wkB, wkC, kernP, rd, rds, reduceIte, Nat.reduceEqDiff, Nat.reduceAdd, binop, intOp_mul, unop, shiftOp, strOp, isNil, fillElems, fillParts, elemZero, FQ, LeaveA, resA, resPV, resPVs, PV.fits, PV.flat, PV.leaf, Nat.reduceBEq, Nat.reduceLT, Nat.reduceLeDiff, Int.reduceLT, Int.reduceLE, Int.reduceToNat, recvd]
  exact ⟨rfl, ⟨_, rfl⟩, hK⟩

theorem rec_pan {r2 r3 : Nat} {c2 c3 : List PV} {μ : Mem} {L : Lv} {K : Option PV → Mem → Lv → Prop} (h2 : μ r2 = some (.cells c2)) (h3 : μ r3 = some (.cells c3)) (hl2 : c2.length = 22) (hl3 : c3.length = 1) (hne : r2 ≠ r3)
    (hK : ∀ z, Fresh μ L z → K none (((μ.set z (.cells [])).set r2 (.cells TEntry.zeroCs)).set r3 (.cells [.int .i64 0])) L) : ADCall Tryz.prog 80 [.ptr r2 0, .ptr r3 0] (some (.iface 189 (.agg []))) μ L K := by
  refine adcall_of_aw mix fnR80 (by simp) ?_
  unfold ac80R
  simp only [wkB, wkC, kernP, rd, rds, reduceIte, Nat.reduceEqDiff, Nat.reduceAdd, binop, intOp_mul, unop, shiftOp, strOp, isNil, fillElems, fillParts, elemZero, FQ, LeaveA, resA, resPV, resPVs, PV.fits, PV.flat, PV.leaf, Nat.reduceBEq, Nat.reduceLT, Nat.reduceLeDiff, Int.reduceLT, Int.reduceLE, Int.reduceToNat, recvd]
  intro z hz
  have n2 : r2 ≠ z := fun e => by rw [e, hz.1] at h2; cases h2
  have n3 : r3 ≠ z := fun e => by rw [e, hz.1] at h3; cases h3
  have a1 : TEntry.zeroCs.length = 22 := rfl
  have a2 : TEntry.zeroCs.all PV.leaf = true := rfl
  have a3 : spl [] 0 0 [] = [] := rfl
  have a4 : ∀ d, spl c2 0 22 d = d := fun d => spl_all hl2
  have a5 : ∀ d, spl c3 0 1 d = d := fun d => spl_all hl3
  simp only [wkB, wkC, kernP, rd, rds, reduceIte, Nat.reduceEqDiff, Nat.reduceAdd, binop, intOp_mul, unop, shiftOp, strOp, isNil, fillElems, fillParts, elemZero, FQ, LeaveA, resA, resPV, resPVs, PV.fits, PV.flat, PV.leaf, Nat.reduceBEq, Nat.reduceLT, Nat.reduceLeDiff, Int.reduceLT, Int.reduceLE, Int.reduceToNat, n2, n3, h2, h3, hl2, hl3, a1, a2, a3, a4, a5, hne.symm, FQR, set_set]
  exact ⟨⟨_, rfl⟩, hK z hz⟩

end Go.Bm

/- record. -/
namespace Go.Bm
open Go Go.Proofs

section
variable {P : Program} {nt : Nat}
/-- What a function's code is to have done when it ends; at a panic the slots are as they are. -/
def FQT (P : Program) (rs : List ResultVar) (K KP : KA) : AEx → St → Prop
  | .normal, σ | .ret, σ => LeaveA P σ.t rs K KP σ.df none σ.μ σ.L
  | .pan p, σ => LeaveA P σ.t rs K KP σ.df (some p) σ.μ σ.L
  | .exit _, _ => False

theorem acall_of_awT (hmix : P.follows .mixedOrders = true) {f : FuncId} {ac : ACode} {rs : List ResultVar} (hf : FnIs P f nt ac rs) {args : List PV} (hle : args.length ≤ nt) {μ : Mem} {L : Lv} {K KP : KA} (hw : AW P ac (FQT P rs K KP) ⟨args0 args, μ, L, []⟩) : ACall P f args μ L K KP := by
  refine ⟨hf.ok, ?_⟩
  obtain ⟨fn, c, h1, h2, h3, h4, h5, h6⟩ := hf.ex
  intro G w vals hv hp hr
  subst h3
  have hm : Mean fn.ntmps G ⟨args0 args, μ, L, []⟩ { tmps := vals ++ undefs (fn.ntmps - vals.size), defers := [] } w :=
    ⟨by simp [undefs]; omega, trivial, args0_FR hv hp, hr⟩
  have hwp := aw_sound (ro := none) hmix c h4 (.inl rfl) hw hm (Evo.refl G w)
  refine (callsIn_wide (n := 0)).1 (callsIn_of_wp_marks (F := FW none) h1 h2 trivial (wpIn_mono hwp ?_))
  intro e a' w' hh
  have fin : Holds fn.ntmps G w (fun σ => LeaveA P σ.t rs K KP σ.df none σ.μ σ.L) a' w' → LeavesInM (FW none) 0 P fn a'.tmps (EndR G w K KP) a'.defers .returning w' := by
    intro hh
    obtain ⟨σ', G', k1, k2, k3⟩ := hh
    exact leave_sound h5 k2.size _ _ _ _ _ _ G' w' k1 k2.df k2.fr k2.rel rfl k3
  cases e with
  | normal => exact fin hh
  | ret => exact fin hh
  | panic chain =>
    obtain ⟨σ', G', v, p, rfl, k1, k2, k3, k4⟩ := hh
    exact leave_sound (t := σ'.t) h5 k3.size σ'.df _ (some p) _ _ _ G' w' k1 k3.df k3.fr k3.rel ⟨v, rfl, k2⟩ k4
  | exit k => obtain ⟨σ', G', k1, _⟩ := hh; exact k1.elim
  | goto l => exact hh.elim
  | outgrown => exact hh.elim

end

theorem agg42 : aggOf Tryz.prog 42 = some (some 22) := by kernel_rfl
theorem agg3 : aggOf Tryz.prog 3 = some none := by kernel_rfl

theorem intOp_quo8 {x : Int} : intOp .quo .i64 x 8 = some (.int .i64 (IntKind.wrap .i64 (x.tdiv 8))) := intOp_quo (by decide)

abbrev zeroRec : PV := .tup [.agg TEntry.zeroCs, .int .i64 0]

theorem rec_end {t : Regs} {r2 r3 : Nat} {c2 c3 : List PV} {μ : Mem} {L : Lv} {K KP : KA} (t2 : t 2 = .ptr r2 0) (t3 : t 3 = .ptr r3 0) (h2 : μ r2 = some (.cells c2)) (h3 : μ r3 = some (.cells c3)) (hl2 : c2.length = 22) (hl3 : c3.length = 1) (hne : r2 ≠ r3)
    (hK : ∀ μ', (∀ x, x ≠ r2 → x ≠ r3 → μ x ≠ none → μ' x = μ x) → K zeroRec μ' L) :
    LeaveA Tryz.prog t [.cell 2 42, .cell 3 3] K KP [.call 80 [] [.ptr r2 0, .ptr r3 0]] (some (.iface 189 (.agg []))) μ L := by
  simp only [LeaveA, List.nil_append]
  refine rec_pan h2 h3 hl2 hl3 hne ?_
  intro z hz
  have n2 : r2 ≠ z := fun e => by rw [e, hz.1] at h2; cases h2
  have n3 : r3 ≠ z := fun e => by rw [e, hz.1] at h3; cases h3
  have a1 : TEntry.zeroCs.length = 22 := rfl
  have a2 : TEntry.zeroCs.take 22 = TEntry.zeroCs := rfl
  simp only [wkB, wkC, kernP, rd, rds, reduceIte, Nat.reduceEqDiff, Nat.reduceAdd, binop, intOp_mul, unop, shiftOp, strOp, isNil, fillElems, fillParts, elemZero, FQ, LeaveA, resA, resPV, resPVs, PV.fits, PV.flat, PV.leaf, Nat.reduceBEq, Nat.reduceLT, Nat.reduceLeDiff, Int.reduceLT, Int.reduceLE, Int.reduceToNat, t2, t3, agg42, agg3, hne, hne.symm, a1, a2]
  refine ⟨_, rfl, hK _ ?_⟩
  intro x q1 q2 q3
  have n1 : x ≠ z := fun e => q3 (by rw [e]; exact hz.1)
  simp only [Mem.set, q1, q2, n1, if_false]

theorem ret_end {t : Regs} {r2 r3 : Nat} {c2 : List PV} {x : PV} {μ : Mem} {L : Lv} {K KP : KA} (t2 : t 2 = .ptr r2 0) (t3 : t 3 = .ptr r3 0) (h2 : μ r2 = some (.cells c2)) (h3 : μ r3 = some (.cells [x])) (hl2 : c2.length = 22)
    (hK : K (.tup [.agg c2, x]) μ L) :
    LeaveA Tryz.prog t [.cell 2 42, .cell 3 3] K KP [.call 80 [] [.ptr r2 0, .ptr r3 0]] none μ L := by
  simp only [LeaveA, List.nil_append]
  refine rec_none ?_
  have a2 : c2.take 22 = c2 := List.take_of_length_le (by omega)
  simp only [wkB, wkC, kernP, rd, rds, reduceIte, Nat.reduceEqDiff, Nat.reduceAdd, binop, intOp_mul, unop, shiftOp, strOp, isNil, fillElems, fillParts, elemZero, FQ, LeaveA, resA, resPV, resPVs, PV.fits, PV.flat, PV.leaf, Nat.reduceBEq, Nat.reduceLT, Nat.reduceLeDiff, Int.reduceLT, Int.reduceLE, Int.reduceToNat, t2, t3, agg42, agg3, hl2, a2, h2, h3]
  exact ⟨_, rfl, hK⟩

def acRec : ACode := .seq
  (.reg false [.mk (some 2) none (.alloc TEntry.zeroCs) [], .mk (some 3) none (.alloc [.int .i64 0]) []]) (.seq
  (.reg false [.mk (some 9) none (.mkfn 80 [] [.t 2, .t 3]) [], .mk none none (.dfr (.t 9) []) []]) (.seq
  (.reg false [.mk (some 10) none (.mv (.t 0)) [], .mk (some 11) none (.len (.t 10)) [], .mk (some 12) none (.bin .geq (.t 11) (.k (.int .i64 16))) [], .mk (some 13) none (.call (.k (.fn 67 [] [])) [.t 12]) []]) (.seq
  (.reg false [.mk (some 14) none (.mv (.t 0)) [], .mk (some 15) none (.call (.k (.fn 81 [] [])) [.t 14]) [], .mk (some 4) none (.mv (.t 15)) []]) (.seq
  (.reg false [.mk (some 16) none (.mv (.t 4)) [], .mk (some 17) none (.bin .leq (.k (.int .i64 0)) (.t 16)) [], .mk (some 18) none (.mv (.t 17)) [], .mk (some 19) (some (some 18, true)) (.mv (.t 4)) [], .mk (some 20) (some (some 18, true)) (.mv (.t 0)) [], .mk (some 21) (some (some 18, true)) (.len (.t 20)) [], .mk (some 22) (some (some 18, true)) (.bin .quo (.t 21) (.k (.int .i64 8))) [], .mk (some 23) (some (some 18, true)) (.bin .sub (.t 22) (.k (.int .i64 2))) [], .mk (some 24) (some (some 18, true)) (.bin .leq (.t 19) (.t 23)) [], .mk (some 25) none (.pick (.t 18) (.t 24) (.k (.bool false))) [], .mk (some 26) none (.call (.k (.fn 67 [] [])) [.t 25]) []]) (.seq
  (.reg false [.mk (some 5) none (.mv (.k (.sl .full 1 []))) []]) (.seq (.seq
  (.reg false [.mk (some 27) none (.mv (.t 4)) [], .mk (some 28) none (.mv (.k (.int .i64 0))) []])
  (.block 0
  (.loop (.seq
  (.reg false [.mk (some 29) none (.bin .lss (.t 28) (.t 27)) []]) (.seq
  (.cond (.t 29) .skip (.exit 0)) (.seq
  (.block 1 (.seq
  (.reg false [.mk (some 30) none (.mv (.t 28)) [], .mk (some 6) none (.mv (.t 30)) []])
  (.reg false [.mk (some 31) none (.mv (.t 5)) [], .mk (some 32) none (.mv (.t 0)) [], .mk (some 33) none (.mv (.t 6)) [], .mk (some 34) none (.bin .mul (.k (.int .i64 8)) (.t 33)) [], .mk (some 35) none (.bin .add (.k (.int .i64 8)) (.t 34)) [], .mk (some 36) none (.slice 1 (.t 32) (some (.t 35)) none none) [], .mk (some 37) none (.call (.k (.fn 81 [] [])) [.t 36]) [], .mk (some 38) none (.bslice false 1 [.int .i64 0] 1 [(0, .t 37)]) [], .mk (some 39) none (.append 1 8 (.t 31) (.t 38)) [], .mk (some 5) none (.mv (.t 39)) []])))
  (.reg false [.mk (some 40) none (.bin .add (.t 28) (.k (.int .i64 1))) [], .mk (some 28) none (.mv (.t 40)) []]))))))) (.seq
  (.reg false [.mk (some 41) none (.mv (.t 0)) [], .mk (some 42) none (.mv (.t 4)) [], .mk (some 43) none (.bin .mul (.k (.int .i64 8)) (.t 42)) [], .mk (some 44) none (.bin .add (.k (.int .i64 8)) (.t 43)) [], .mk (some 45) none (.slice 1 (.t 41) (some (.t 44)) none none) [], .mk (some 46) none (.call (.k (.fn 81 [] [])) [.t 45]) [], .mk (some 47) none (.mv (.t 5)) [], .mk (some 48) none (.call (.k (.fn 17 [] [])) [.t 47]) [], .mk (some 49) none (.conv .i64 (.t 48)) [], .mk (some 50) none (.bin .eql (.t 46) (.t 49)) [], .mk (some 51) none (.call (.k (.fn 67 [] [])) [.t 50]) []]) (.seq
  (.reg false [.mk (some 52) none (.mv (.t 5)) [], .mk (some 7) none (.alloc [.sl .full 1 []]) [], .mk none none (.store 1 (.t 7) (.t 52)) []]) (.seq
  (.reg false [.mk (some 53) none (.mkfn 82 [] [.t 7]) [], .mk (some 54) none (.build [.nilf, .nilf] [(1, 1, .t 53)]) [], .mk (some 8) none (.alloc [.nilf, .nilf]) [], .mk none none (.store 2 (.t 8) (.t 54)) []]) (.seq
  (.reg false [.mk (some 55) none (.mkfn 83 [] [.t 7]) [], .mk (some 56) none (.faddr (.t 8) 0) [], .mk none none (.store 1 (.t 56) (.t 55)) []]) (.seq
  (.reg false [.mk (some 57) none (.load (some 2) (.t 8)) [], .mk (some 58) none (.call (.k (.fn 15 [] [])) [.t 57, .t 2]) []]) (.seq
  (.reg false [.mk (some 59) none (.load none (.t 7)) [], .mk (some 60) none (.len (.t 59)) [], .mk (some 61) none (.bin .eql (.t 60) (.k (.int .i64 0))) [], .mk (some 62) none (.call (.k (.fn 67 [] [])) [.t 61]) []]) (.seq
  (.reg false [.mk (some 63) none (.load (some 22) (.t 2)) [], .mk (some 64) none (.mv (.t 4)) [], .mk (some 65) none (.bin .mul (.k (.int .i64 8)) (.t 64)) [], .mk (some 66) none (.bin .add (.k (.int .i64 16)) (.t 65)) [], .mk none none (.store 22 (.t 2) (.t 63)) [], .mk none none (.store 1 (.t 3) (.t 66)) []]) .ret)))))))))))))

theorem fnRec : FnIs Tryz.prog 36 67 acRec [.cell 2 42, .cell 3 3] := fn36.of_erase rfl

theorem record_short {tk : Tok} {xs : List PV} {μ : Mem} {L : Lv} {K KP : KA} (hs : xs.length < 16) (hK : ∀ μ', (∀ x, μ x ≠ none → μ' x = μ x) → K zeroRec μ' L) : ACall Tryz.prog 36 [.sl tk 1 xs] μ L K KP := by
  refine acall_of_awT mix fnRec (by simp) ?_
  unfold acRec
  have e1 : decide (((xs.length : Nat) : Int) ≥ 16) = false := by simp only [decide_eq_false_iff_not]; omega
  simp only [wkB, wkC, kernP, rd, rds, reduceIte, Nat.reduceEqDiff, Nat.reduceAdd, binop, intOp_mul, unop, shiftOp, strOp, isNil, fillElems, fillParts, elemZero, FQ, LeaveA, resA, resPV, resPVs, PV.fits, PV.flat, PV.leaf, Nat.reduceBEq, Nat.reduceLT, Nat.reduceLeDiff, Int.reduceLT, Int.reduceLE, Int.reduceToNat, FQT]
  intro r2 h2 r3 h3
  have hne : r2 ≠ r3 := fun e => by have := h3.1; simp [Mem.set, e] at this
  have h3' : μ r3 = none := by have := h3.1; simp only [Mem.set, hne.symm, if_false] at this; exact this
  simp only [wkB, wkC, kernP, rd, rds, reduceIte, Nat.reduceEqDiff, Nat.reduceAdd, binop, intOp_mul, unop, shiftOp, strOp, isNil, fillElems, fillParts, elemZero, FQ, LeaveA, resA, resPV, resPVs, PV.fits, PV.flat, PV.leaf, Nat.reduceBEq, Nat.reduceLT, Nat.reduceLeDiff, Int.reduceLT, Int.reduceLE, Int.reduceToNat, e1, FQT]
  refine need_no ?_
  simp only [putP_a, panQ_a, seqQ_p, FQT]
  refine rec_end (c2 := TEntry.zeroCs) (c3 := [.int .i64 0]) (by simp only [wkB, wkC, kernP, rd, rds, reduceIte, Nat.reduceEqDiff, Nat.reduceAdd, binop, intOp_mul, unop, shiftOp, strOp, isNil, fillElems, fillParts, elemZero, FQ, LeaveA, resA, resPV, resPVs, PV.fits, PV.flat, PV.leaf, Nat.reduceBEq, Nat.reduceLT, Nat.reduceLeDiff, Int.reduceLT, Int.reduceLE, Int.reduceToNat]) (by simp only [wkB, wkC, kernP, rd, rds, reduceIte, Nat.reduceEqDiff, Nat.reduceAdd, binop, intOp_mul, unop, shiftOp, strOp, isNil, fillElems, fillParts, elemZero, FQ, LeaveA, resA, resPV, resPVs, PV.fits, PV.flat, PV.leaf, Nat.reduceBEq, Nat.reduceLT, Nat.reduceLeDiff, Int.reduceLT, Int.reduceLE, Int.reduceToNat]) (by simp only [Mem.set, hne, if_false, if_true]) (by simp only [Mem.set, if_true]) rfl rfl hne ?_
  intro μ' hμ
  refine hK _ ?_
  intro x hx
  have n2 : x ≠ r2 := fun e => hx (by rw [e]; exact h2.1)
  have n3 : x ≠ r3 := fun e => hx (by rw [e]; exact h3')
  rw [hμ x n2 n3 (by simp only [Mem.set, n2, n3, if_false]; exact hx)]
  simp only [Mem.set, n2, n3, if_false]

theorem record_cut {tk : Tok} {xs : List PV} {f : Nat → Int} {n : Int} {μ : Mem} {L : Lv} {K KP : KA} (hs : 16 ≤ xs.length) (hb : xs.length < 1152921504606846976) (hf : ∀ k, k < 8 → xs[k]? = some (.int .u8 (f k))) (hn : IntKind.wrap .i64 (getR f 8) = n) (h0 : 0 ≤ n)
    (hlt : ¬ n ≤ (xs.length : Int) / 8 - 2) (hK : ∀ μ', (∀ x, μ x ≠ none → μ' x = μ x) → K zeroRec μ' L) : ACall Tryz.prog 36 [.sl tk 1 xs] μ L K KP := by
  refine acall_of_awT mix fnRec (by simp) ?_
  unfold acRec
  have e1 : decide (((xs.length : Nat) : Int) ≥ 16) = true := by simp only [decide_eq_true_eq]; omega
  simp only [wkB, wkC, kernP, rd, rds, reduceIte, Nat.reduceEqDiff, Nat.reduceAdd, binop, intOp_mul, unop, shiftOp, strOp, isNil, fillElems, fillParts, elemZero, FQ, LeaveA, resA, resPV, resPVs, PV.fits, PV.flat, PV.leaf, Nat.reduceBEq, Nat.reduceLT, Nat.reduceLeDiff, Int.reduceLT, Int.reduceLE, Int.reduceToNat, FQT]
  intro r2 h2 r3 h3
  have hne : r2 ≠ r3 := fun e => by have := h3.1; simp [Mem.set, e] at this
  have h3' : μ r3 = none := by have := h3.1; simp only [Mem.set, hne.symm, if_false] at this; exact this
  simp only [wkB, wkC, kernP, rd, rds, reduceIte, Nat.reduceEqDiff, Nat.reduceAdd, binop, intOp_mul, unop, shiftOp, strOp, isNil, fillElems, fillParts, elemZero, FQ, LeaveA, resA, resPV, resPVs, PV.fits, PV.flat, PV.leaf, Nat.reduceBEq, Nat.reduceLT, Nat.reduceLeDiff, Int.reduceLT, Int.reduceLE, Int.reduceToNat, e1, FQT]
  refine need_ok ?_
  simp only [wkB, wkC, kernP, rd, rds, reduceIte, Nat.reduceEqDiff, Nat.reduceAdd, binop, intOp_mul, unop, shiftOp, strOp, isNil, fillElems, fillParts, elemZero, FQ, LeaveA, resA, resPV, resPVs, PV.fits, PV.flat, PV.leaf, Nat.reduceBEq, Nat.reduceLT, Nat.reduceLeDiff, Int.reduceLT, Int.reduceLE, Int.reduceToNat, FQT]
  refine get_ok hf ?_
  rw [hn]
  have e2 : decide ((0 : Int) ≤ n) = true := by simp only [decide_eq_true_eq]; exact h0
  have e3 : IntKind.wrap .i64 ((xs.length : Int).tdiv 8) = (xs.length : Int) / 8 := IntWalk.i64_quo _ _ (by omega)
  have e4 : IntKind.wrap .i64 ((xs.length : Int) / 8 - 2) = (xs.length : Int) / 8 - 2 := IntWalk.i64_in _ (by omega)
  have e5 : decide (n ≤ (xs.length : Int) / 8 - 2) = false := by simp only [decide_eq_false_iff_not]; exact hlt
  simp only [wkB, wkC, kernP, rd, rds, reduceIte, Nat.reduceEqDiff, Nat.reduceAdd, binop, intOp_mul, unop, shiftOp, strOp, isNil, fillElems, fillParts, elemZero, FQ, LeaveA, resA, resPV, resPVs, PV.fits, PV.flat, PV.leaf, Nat.reduceBEq, Nat.reduceLT, Nat.reduceLeDiff, Int.reduceLT, Int.reduceLE, Int.reduceToNat, FQT, e2, intOp_quo8, e3, e4, e5]
  refine need_no ?_
  simp only [putP_a, panQ_a, seqQ_p, FQT]
  refine rec_end (c2 := TEntry.zeroCs) (c3 := [.int .i64 0]) (by simp only [wkB, wkC, kernP, rd, rds, reduceIte, Nat.reduceEqDiff, Nat.reduceAdd, binop, intOp_mul, unop, shiftOp, strOp, isNil, fillElems, fillParts, elemZero, FQ, LeaveA, resA, resPV, resPVs, PV.fits, PV.flat, PV.leaf, Nat.reduceBEq, Nat.reduceLT, Nat.reduceLeDiff, Int.reduceLT, Int.reduceLE, Int.reduceToNat]) (by simp only [wkB, wkC, kernP, rd, rds, reduceIte, Nat.reduceEqDiff, Nat.reduceAdd, binop, intOp_mul, unop, shiftOp, strOp, isNil, fillElems, fillParts, elemZero, FQ, LeaveA, resA, resPV, resPVs, PV.fits, PV.flat, PV.leaf, Nat.reduceBEq, Nat.reduceLT, Nat.reduceLeDiff, Int.reduceLT, Int.reduceLE, Int.reduceToNat]) (by simp only [Mem.set, hne, if_false, if_true]) (by simp only [Mem.set, if_true]) rfl rfl hne ?_
  intro μ' hμ
  refine hK _ ?_
  intro x hx
  have n2 : x ≠ r2 := fun e => hx (by rw [e]; exact h2.1)
  have n3 : x ≠ r3 := fun e => hx (by rw [e]; exact h3')
  rw [hμ x n2 n3 (by simp only [Mem.set, n2, n3, if_false]; exact hx)]
  simp only [Mem.set, n2, n3, if_false]

end Go.Bm

/- record: a whole one. -/
namespace Go.Bm
open Go Go.Proofs

/-- Eight bytes from o on mean a word. -/
def WordAt (xs : List PV) (o : Nat) (w : Int) : Prop := ∃ f : Nat → Int, (∀ j, j < 8 → xs[o + j]? = some (.int .u8 (f j))) ∧ IntKind.wrap .i64 (getR f 8) = w

theorem record_ok {tk : Tok} {xs : List PV} {ws : List Int} {v' : TEntry.den} {μ : Mem} {L : Lv} {K KP : KA} (hs : 8 * (ws.length + 2) ≤ xs.length) (hb : xs.length < 1099511627776) (h0 : WordAt xs 0 ws.length)
    (hw : ∀ k (h : k < ws.length), WordAt xs (8 + 8 * k) ws[k]) (hd : WordAt xs (8 + 8 * ws.length) (IntKind.wrap .i64 (wordsI ws))) (hv : visit .dec TEntry TEntry.zero ws = some (v', []))
    (hK : ∀ cs' μ' L', Rep TEntry cs' v' → (∀ x, μ x ≠ none → μ' x = μ x) → (∀ c, L c → L' c) → K (.tup [.agg cs', .int .i64 (16 + 8 * ws.length)]) μ' L') : ACall Tryz.prog 36 [.sl tk 1 xs] μ L K KP := by
  refine acall_of_awT mix fnRec (by simp) ?_
  unfold acRec
  have e1 : decide (((xs.length : Nat) : Int) ≥ 16) = true := by simp only [decide_eq_true_eq]; omega
  simp only [wkB, wkC, kernP, rd, rds, reduceIte, Nat.reduceEqDiff, Nat.reduceAdd, binop, intOp_mul, unop, shiftOp, strOp, isNil, fillElems, fillParts, elemZero, FQ, LeaveA, resA, resPV, resPVs, PV.fits, PV.flat, PV.leaf, Nat.reduceBEq, Nat.reduceLT, Nat.reduceLeDiff, Int.reduceLT, Int.reduceLE, Int.reduceToNat, FQT]
  intro r2 h2 r3 h3
  have hne : r2 ≠ r3 := fun e => by have := h3.1; simp [Mem.set, e] at this
  have h3' : μ r3 = none := by have := h3.1; simp only [Mem.set, hne.symm, if_false] at this; exact this
  simp only [wkB, wkC, kernP, rd, rds, reduceIte, Nat.reduceEqDiff, Nat.reduceAdd, binop, intOp_mul, unop, shiftOp, strOp, isNil, fillElems, fillParts, elemZero, FQ, LeaveA, resA, resPV, resPVs, PV.fits, PV.flat, PV.leaf, Nat.reduceBEq, Nat.reduceLT, Nat.reduceLeDiff, Int.reduceLT, Int.reduceLE, Int.reduceToNat, e1, FQT]
  refine need_ok ?_
  simp only [wkB, wkC, kernP, rd, rds, reduceIte, Nat.reduceEqDiff, Nat.reduceAdd, binop, intOp_mul, unop, shiftOp, strOp, isNil, fillElems, fillParts, elemZero, FQ, LeaveA, resA, resPV, resPVs, PV.fits, PV.flat, PV.leaf, Nat.reduceBEq, Nat.reduceLT, Nat.reduceLeDiff, Int.reduceLT, Int.reduceLE, Int.reduceToNat, FQT]
  obtain ⟨f0, hf0, hn0⟩ := h0
  refine get_ok (fun j hj => by have := hf0 j hj; rwa [Nat.zero_add] at this) ?_
  rw [hn0]
  have e2 : decide ((0 : Int) ≤ (ws.length : Int)) = true := by simp only [decide_eq_true_eq]; omega
  have e3 : IntKind.wrap .i64 ((xs.length : Int).tdiv 8) = (xs.length : Int) / 8 := IntWalk.i64_quo _ _ (by omega)
  have e4 : IntKind.wrap .i64 ((xs.length : Int) / 8 - 2) = (xs.length : Int) / 8 - 2 := IntWalk.i64_in _ (by omega)
  have e5 : decide ((ws.length : Int) ≤ (xs.length : Int) / 8 - 2) = true := by simp only [decide_eq_true_eq]; omega
  simp only [wkB, wkC, kernP, rd, rds, reduceIte, Nat.reduceEqDiff, Nat.reduceAdd, binop, intOp_mul, unop, shiftOp, strOp, isNil, fillElems, fillParts, elemZero, FQ, LeaveA, resA, resPV, resPVs, PV.fits, PV.flat, PV.leaf, Nat.reduceBEq, Nat.reduceLT, Nat.reduceLeDiff, Int.reduceLT, Int.reduceLE, Int.reduceToNat, FQT, e2, intOp_quo8, e3, e4, e5]
  refine need_ok ?_
  simp only [wkB, wkC, kernP, rd, rds, reduceIte, Nat.reduceEqDiff, Nat.reduceAdd, binop, intOp_mul, unop, shiftOp, strOp, isNil, fillElems, fillParts, elemZero, FQ, LeaveA, resA, resPV, resPVs, PV.fits, PV.flat, PV.leaf, Nat.reduceBEq, Nat.reduceLT, Nat.reduceLeDiff, Int.reduceLT, Int.reduceLE, Int.reduceToNat, FQT]
  obtain ⟨M, hM⟩ : ∃ M, M = (μ.set r2 (.cells TEntry.zeroCs)).set r3 (.cells [.int .i64 0]) := ⟨_, rfl⟩
  rw [← hM]
  have hsl : ∀ k, k ≤ ws.length → ((0 : Int) ≤ ((8 + 8 * k : Nat) : Int)) ∧ (((8 + 8 * k : Nat) : Int) ≤ (xs.length : Int)) := fun k hk => ⟨by omega, by omega⟩
  refine aw_for ws.length (fun k t μ' L' df => ∃ tk', t 5 = .sl tk' 1 (ints (ws.take k)) ∧ t 0 = .sl tk 1 xs ∧ t 27 = .int .i64 ws.length ∧ t 28 = .int .i64 k ∧ t 4 = .int .i64 ws.length ∧ t 2 = .ptr r2 0 ∧ t 3 = .ptr r3 0 ∧ μ' = M ∧ df = [.call 80 [] [.ptr r2 0, .ptr r3 0]] ∧ TkS L .full L' tk') (by omega) ?_ ?_ ?_ ?_ (by decide)
  · rintro k t μ' L' df ⟨tk', t5, t0, t27, t28, t4, t2, t3, rfl, rfl, p⟩
    exact ⟨t28, t27⟩
  · refine ⟨.full, ?_⟩
    simp only [wkB, wkC, kernP, rd, rds, reduceIte, Nat.reduceEqDiff, Nat.reduceAdd, binop, intOp_mul, unop, shiftOp, strOp, isNil, fillElems, fillParts, elemZero, FQ, LeaveA, resA, resPV, resPVs, PV.fits, PV.flat, PV.leaf, Nat.reduceBEq, Nat.reduceLT, Nat.reduceLeDiff, Int.reduceLT, Int.reduceLE, Int.reduceToNat]
    exact ⟨rfl, .refl (.inl rfl)⟩
  · rintro t μ' L' df ⟨tk', t5, t0, t27, t28, t4, t2, t3, rfl, rfl, p⟩
    rw [List.take_length] at t5
    have a1 : IntKind.wrap .i64 (8 * (ws.length : Int)) = ((8 * ws.length : Nat) : Int) := by rw [IntWalk.i64_in _ (by omega)]; rfl
    have a2 : IntKind.wrap .i64 (8 + ((8 * ws.length : Nat) : Int)) = ((8 + 8 * ws.length : Nat) : Int) := by rw [IntWalk.i64_in _ (by omega)]; rfl
    obtain ⟨a3, a4⟩ := hsl ws.length (Nat.le_refl _)
    simp only [wkB, wkC, kernP, rd, rds, reduceIte, Nat.reduceEqDiff, Nat.reduceAdd, binop, intOp_mul, unop, shiftOp, strOp, isNil, fillElems, fillParts, elemZero, FQ, LeaveA, resA, resPV, resPVs, PV.fits, PV.flat, PV.leaf, Nat.reduceBEq, Nat.reduceLT, Nat.reduceLeDiff, Int.reduceLT, Int.reduceLE, Int.reduceToNat, FQT, t5, t0, t27, t28, t4, t2, t3, a1, a2, boundsOf, hiOf, maxOk, a3, a4, Option.isSome_none, List.take_length]
    obtain ⟨fd, hfd, hnd⟩ := hd
    refine get_ok (f := fd) (fun j hj => by rw [List.getElem?_drop]; exact hfd j hj) ?_
    rw [hnd]
    simp only [wkB, wkC, kernP, rd, rds, reduceIte, Nat.reduceEqDiff, Nat.reduceAdd, binop, intOp_mul, unop, shiftOp, strOp, isNil, fillElems, fillParts, elemZero, FQ, LeaveA, resA, resPV, resPVs, PV.fits, PV.flat, PV.leaf, Nat.reduceBEq, Nat.reduceLT, Nat.reduceLeDiff, Int.reduceLT, Int.reduceLE, Int.reduceToNat, FQT, t5, t0, t27, t28, t4, t2, t3]
    refine words_ok (by omega) ?_
    simp only [wkB, wkC, kernP, rd, rds, reduceIte, Nat.reduceEqDiff, Nat.reduceAdd, binop, intOp_mul, unop, shiftOp, strOp, isNil, fillElems, fillParts, elemZero, FQ, LeaveA, resA, resPV, resPVs, PV.fits, PV.flat, PV.leaf, Nat.reduceBEq, Nat.reduceLT, Nat.reduceLeDiff, Int.reduceLT, Int.reduceLE, Int.reduceToNat, FQT, t5, t0, t27, t28, t4, t2, t3]
    refine need_ok ?_
    simp only [wkB, wkC, kernP, rd, rds, reduceIte, Nat.reduceEqDiff, Nat.reduceAdd, binop, intOp_mul, unop, shiftOp, strOp, isNil, fillElems, fillParts, elemZero, FQ, LeaveA, resA, resPV, resPVs, PV.fits, PV.flat, PV.leaf, Nat.reduceBEq, Nat.reduceLT, Nat.reduceLeDiff, Int.reduceLT, Int.reduceLE, Int.reduceToNat, FQT, t5, t0, t27, t28, t4, t2, t3, spl]
    intro k0 hk0 e0 he0
    have hkM : μ' k0 = none := hk0.1
    have hk2 : k0 ≠ r2 := fun e => by rw [e, hM] at hkM; simp [Mem.set, hne] at hkM
    have hk3 : k0 ≠ r3 := fun e => by rw [e, hM] at hkM; simp [Mem.set] at hkM
    have he0' : e0 ≠ k0 ∧ μ' e0 = none := by
      have := he0.1
      simp only [Mem.set] at this
      split at this
      · cases this
      · rename_i q; exact ⟨q, by simpa only [q, if_false] using this⟩
    have he2 : e0 ≠ r2 := fun e => by have := he0'.2; rw [e, hM] at this; simp [Mem.set, hne] at this
    have he3 : e0 ≠ r3 := fun e => by have := he0'.2; rw [e, hM] at this; simp [Mem.set] at this
    generalize hN : Mem.set _ e0 (.cells [.fn 83 [] [.ptr k0 0], .fn 82 [] [.ptr k0 0]]) = N
    have Nold : ∀ z, z ≠ k0 → z ≠ e0 → N z = μ' z := by
      intro z z1 z2
      rw [← hN]; simp only [Mem.set, z1, z2, if_false]
    have Nk : WS k0 tk' ws N := by rw [← hN]; simp [WS, Mem.set, he0'.1.symm]
    have N2 : N r2 = some (.cells TEntry.zeroCs) := by rw [Nold r2 hk2.symm he2.symm, hM]; simp [Mem.set, hne]
    have N3 : N r3 = some (.cells [.int .i64 0]) := by rw [Nold r3 hk3.symm he3.symm, hM]; simp [Mem.set]
    refine ventry_ok .dec k0 r2 0 [] TEntry.zeroCs [] TEntry.zero v' ws [] N L' _ _ hk2.symm (by simpa using N2) rfl (Rep.zero TEntry) ⟨by unfold wmax; omega, tk', Nk, fun e => by cases e⟩ hv ?_
    intro cs' μ1 L1 q1 q2 s1
    have q2' : μ1 r2 = some (.cells cs') := by simpa using q2
    obtain ⟨tka, tkb, _, s2, _, s4⟩ := s1.st
    have s4 := s4 rfl
    subst s4
    have s2' : μ1 k0 = some (.cells [.sl tkb 1 []]) := s2
    have q3 : μ1 r3 = some (.cells [.int .i64 0]) := by rw [s1.fr r3 hk3.symm hne.symm (by rw [N3]; simp), N3]
    have hl : cs'.length = 22 := q1.length
    have hlv : cs'.all PV.leaf = true := List.all_eq_true.2 q1.leaves
    have b1 : ((((0 : Nat) : Int)) == 0) = true := rfl
    have b2 : ∀ d, spl cs' 0 22 d = d := fun d => spl_all hl
    have b3 : cs'.take 22 = cs' := List.take_of_length_le (by omega)
    have b4 : IntKind.wrap .i64 (16 + ((8 * ws.length : Nat) : Int)) = 16 + 8 * (ws.length : Int) := by rw [IntWalk.i64_in _ (by omega)]; omega
    have b5 : ∀ x : PV, spl [PV.int .i64 0] 0 1 [x] = [x] := fun x => rfl
    simp only [wkB, wkC, kernP, rd, rds, reduceIte, Nat.reduceEqDiff, Nat.reduceAdd, binop, intOp_mul, unop, shiftOp, strOp, isNil, fillElems, fillParts, elemZero, FQ, LeaveA, resA, resPV, resPVs, PV.fits, PV.flat, PV.leaf, Nat.reduceBEq, Nat.reduceLT, Nat.reduceLeDiff, Int.reduceLT, Int.reduceLE, Int.reduceToNat, FQT, t5, t0, t27, t28, t4, t2, t3, s2', b1]
    refine need_ok ?_
    simp only [wkB, wkC, kernP, rd, rds, reduceIte, Nat.reduceEqDiff, Nat.reduceAdd, binop, intOp_mul, unop, shiftOp, strOp, isNil, fillElems, fillParts, elemZero, FQ, LeaveA, resA, resPV, resPVs, PV.fits, PV.flat, PV.leaf, Nat.reduceBEq, Nat.reduceLT, Nat.reduceLeDiff, Int.reduceLT, Int.reduceLE, Int.reduceToNat, FQT, t5, t0, t27, t28, t4, t2, t3, q2', q3, hl, hlv, b2, b3, a1, b4, b5, hne.symm]
    refine ret_end (by simp only [wkB, wkC, kernP, rd, rds, reduceIte, Nat.reduceEqDiff, Nat.reduceAdd, binop, intOp_mul, unop, shiftOp, strOp, isNil, fillElems, fillParts, elemZero, FQ, LeaveA, resA, resPV, resPVs, PV.fits, PV.flat, PV.leaf, Nat.reduceBEq, Nat.reduceLT, Nat.reduceLeDiff, Int.reduceLT, Int.reduceLE, Int.reduceToNat, t2]) (by simp only [wkB, wkC, kernP, rd, rds, reduceIte, Nat.reduceEqDiff, Nat.reduceAdd, binop, intOp_mul, unop, shiftOp, strOp, isNil, fillElems, fillParts, elemZero, FQ, LeaveA, resA, resPV, resPVs, PV.fits, PV.flat, PV.leaf, Nat.reduceBEq, Nat.reduceLT, Nat.reduceLeDiff, Int.reduceLT, Int.reduceLE, Int.reduceToNat, t3]) (c2 := cs') (x := .int .i64 (16 + 8 * (ws.length : Int))) (by simp only [Mem.set, hne, if_false, if_true]) (by simp only [Mem.set, if_true]) hl ?_
    refine hK cs' _ _ q1 ?_ (fun c hc => (p.2 c hc (by simp)).1)
    intro x hx
    have n2 : x ≠ r2 := fun e => hx (by rw [e]; exact h2.1)
    have n3 : x ≠ r3 := fun e => hx (by rw [e]; exact h3')
    have hMx : μ' x = μ x := by rw [hM]; simp only [Mem.set, n2, n3, if_false]
    have nk : x ≠ k0 := fun e => hx (by rw [← hMx, e]; exact hkM)
    have ne : x ≠ e0 := fun e => hx (by rw [← hMx, e]; exact he0'.2)
    simp only [Mem.set, n2, n3, if_false]
    rw [s1.fr x nk n2 (by rw [Nold x nk ne, hMx]; exact hx), Nold x nk ne, hMx]
  · rintro k t μ' L' df hk ⟨tk', t5, t0, t27, t28, t4, t2, t3, rfl, rfl, p⟩
    have a1 : IntKind.wrap .i64 (8 * (k : Int)) = ((8 * k : Nat) : Int) := by rw [IntWalk.i64_in _ (by omega)]; rfl
    have a2 : IntKind.wrap .i64 (8 + ((8 * k : Nat) : Int)) = ((8 + 8 * k : Nat) : Int) := by rw [IntWalk.i64_in _ (by omega)]; rfl
    obtain ⟨a3, a4⟩ := hsl k (by omega)
    simp only [wkB, wkC, kernP, rd, rds, reduceIte, Nat.reduceEqDiff, Nat.reduceAdd, binop, intOp_mul, unop, shiftOp, strOp, isNil, fillElems, fillParts, elemZero, FQ, LeaveA, resA, resPV, resPVs, PV.fits, PV.flat, PV.leaf, Nat.reduceBEq, Nat.reduceLT, Nat.reduceLeDiff, Int.reduceLT, Int.reduceLE, Int.reduceToNat, FQT, t5, t0, t27, t28, t4, t2, t3, a1, a2, boundsOf, hiOf, maxOk, a3, a4, Option.isSome_none, List.take_length]
    obtain ⟨fd, hfd, hnd⟩ := hw k hk
    refine get_ok (f := fd) (fun j hj => by rw [List.getElem?_drop]; exact hfd j hj) ?_
    rw [hnd]
    simp only [wkB, wkC, kernP, rd, rds, reduceIte, Nat.reduceEqDiff, Nat.reduceAdd, binop, intOp_mul, unop, shiftOp, strOp, isNil, fillElems, fillParts, elemZero, FQ, LeaveA, resA, resPV, resPVs, PV.fits, PV.flat, PV.leaf, Nat.reduceBEq, Nat.reduceLT, Nat.reduceLeDiff, Int.reduceLT, Int.reduceLE, Int.reduceToNat, FQT, t5, t0, t27, t28, t4, t2, t3]
    refine app_tok (xs := ints (ws.take k)) (ys := [.int .i64 ws[k]]) (tk := tk') (tk2 := .full) (by simp only [wkB, wkC, kernP, rd, rds, reduceIte, Nat.reduceEqDiff, Nat.reduceAdd, binop, intOp_mul, unop, shiftOp, strOp, isNil, fillElems, fillParts, elemZero, FQ, LeaveA, resA, resPV, resPVs, PV.fits, PV.flat, PV.leaf, Nat.reduceBEq, Nat.reduceLT, Nat.reduceLeDiff, Int.reduceLT, Int.reduceLE, Int.reduceToNat]) (by simp only [wkB, wkC, kernP, rd, rds, reduceIte, Nat.reduceEqDiff, Nat.reduceAdd, binop, intOp_mul, unop, shiftOp, strOp, isNil, fillElems, fillParts, elemZero, FQ, LeaveA, resA, resPV, resPVs, PV.fits, PV.flat, PV.leaf, Nat.reduceBEq, Nat.reduceLT, Nat.reduceLeDiff, Int.reduceLT, Int.reduceLE, Int.reduceToNat]) p.1 (by simp; omega) ?_
    intro b hb'
    simp only [wkB, wkC, kernP, rd, rds, reduceIte, Nat.reduceEqDiff, Nat.reduceAdd, binop, intOp_mul, unop, shiftOp, strOp, isNil, fillElems, fillParts, elemZero, FQ, LeaveA, resA, resPV, resPVs, PV.fits, PV.flat, PV.leaf, Nat.reduceBEq, Nat.reduceLT, Nat.reduceLeDiff, Int.reduceLT, Int.reduceLE, Int.reduceToNat, t5, t0, t27, t28, t4, t2, t3]
    refine ⟨.tk b, ?_, p.step hb'⟩
    rw [List.take_add_one, List.getElem?_eq_getElem hk, Option.toList_some]
    simp only [ints, List.map_append, List.map_cons, List.map_nil]

end Go.Bm

/- Recover. -/
namespace Go.Bm
open Go Go.Proofs

def acRecov : ACode := .seq
  (.reg false [.mk (some 2) none (.mv (.k (.sl .full 22 []))) [], .mk (some 3) none (.mv (.k (.sl .full 1 []))) []]) (.seq
  (.reg false [.mk (some 4) none (.mv (.k (.sl .full 22 []))) []]) (.seq
  (.reg false [.mk (some 5) none (.mv (.k (.int .i64 0))) []])
  (.block 0
  (.loop
  (.block 1 (.seq
  (.reg false [.mk (some 9) none (.mv (.t 0)) [], .mk (some 10) none (.mv (.t 5)) [], .mk (some 11) none (.slice 1 (.t 9) (some (.t 10)) none none) [], .mk (some 12) none (.call (.k (.fn 36 [] [])) [.t 11]) [], .mk (some 8) none (.mv (.t 12)) [], .mk (some 13) none (.extr (.t 8) 0) [], .mk (some 14) none (.extr (.t 8) 1) [], .mk (some 6) none (.alloc TEntry.zeroCs) [], .mk none none (.store 22 (.t 6) (.t 13)) [], .mk (some 7) none (.mv (.t 14)) []]) (.seq (.seq
  (.reg false [.mk (some 15) none (.mv (.t 7)) [], .mk (some 16) none (.bin .eql (.t 15) (.k (.int .i64 0))) []])
  (.cond (.t 16) (.seq
  (.reg true [.mk (some 17) none (.mv (.t 4)) [], .mk (some 18) none (.mv (.t 0)) [], .mk (some 19) none (.mv (.t 5)) [], .mk (some 20) none (.mv (.t 5)) [], .mk (some 21) none (.slice 1 (.t 18) none (some (.t 19)) (some (.t 20))) [1, 2, 3], .mk (some 2) none (.mv (.t 17)) [0], .mk (some 3) none (.mv (.t 21)) [4, 5, 1, 2, 3, 0]]) .ret) .skip))
  (.reg false [.mk (some 22) none (.mv (.t 4)) [], .mk (some 23) none (.load (some 22) (.t 6)) [], .mk (some 24) none (.bslice true 22 TEntry.zeroCs 1 [(0, .t 23)]) [], .mk (some 25) none (.append 22 320 (.t 22) (.t 24)) [], .mk (some 26) none (.mv (.t 5)) [], .mk (some 27) none (.mv (.t 7)) [], .mk (some 28) none (.bin .add (.t 26) (.t 27)) [], .mk (some 4) none (.mv (.t 25)) [], .mk (some 5) none (.mv (.t 28)) []]))))))))

theorem fnRecov : FnIs Tryz.prog 18 29 acRecov [.tmp 2, .tmp 3] := fn18.of_erase rfl

/-- A whole record lies at the front. -/
structure RecAt (xs : List PV) (ws : List Int) (v : TEntry.den) : Prop where
  len : 8 * (ws.length + 2) ≤ xs.length
  w0 : WordAt xs 0 ws.length
  w : ∀ k (h : k < ws.length), WordAt xs (8 + 8 * k) ws[k]
  wd : WordAt xs (8 + 8 * ws.length) (IntKind.wrap .i64 (wordsI ws))
  vis : visit .dec TEntry TEntry.zero ws = some (v, [])

/-- No record lies at the front. -/
def RecEnd (xs : List PV) : Prop := xs.length < 16 ∨ (16 ≤ xs.length ∧ ∃ n : Int, WordAt xs 0 n ∧ 0 ≤ n ∧ ¬ n ≤ (xs.length : Int) / 8 - 2)

def Chain (xs : List PV) : Nat → List (List Int × TEntry.den) → Prop
  | o, [] => o ≤ xs.length ∧ RecEnd (xs.drop o)
  | o, (ws, v) :: rs => o ≤ xs.length ∧ RecAt (xs.drop o) ws v ∧ Chain xs (o + (16 + 8 * ws.length)) rs

def endOf : Nat → List (List Int × TEntry.den) → Nat
  | o, [] => o
  | o, (ws, _) :: rs => endOf (o + (16 + 8 * ws.length)) rs

theorem chain_le {xs : List PV} : ∀ {o : Nat} {rs : List (List Int × TEntry.den)}, Chain xs o rs → o ≤ xs.length
  | _, [], h => h.1
  | _, _ :: _, h => h.1

theorem record_none {tk : Tok} {xs : List PV} {μ : Mem} {L : Lv} {K KP : KA} (h : RecEnd xs) (hb : xs.length < 1152921504606846976) (hK : ∀ μ', (∀ x, μ x ≠ none → μ' x = μ x) → K zeroRec μ' L) : ACall Tryz.prog 36 [.sl tk 1 xs] μ L K KP := by
  rcases h with hs | ⟨hs, n, ⟨f, hf, hfn⟩, h0, hlt⟩
  · exact record_short hs hK
  · exact record_cut hs hb (fun j hj => by have := hf j hj; rwa [Nat.zero_add] at this) hfn h0 hlt hK

theorem recov_ok {tk : Tok} {xs : List PV} {rs : List (List Int × TEntry.den)} {μ : Mem} {L : Lv} {K KP : KA} (hb : xs.length < 1099511627776) (hn : rs.length < 1000000) (hc : Chain xs 0 rs)
    (hK : ∀ tk' es μ' L', RepL TEntry es (rs.map (·.2)) → Keeps μ L μ' L' tk' → K (.tup [.sl tk' 22 es, .sl .full 1 (xs.take (endOf 0 rs))]) μ' L') : ACall Tryz.prog 18 [.sl tk 1 xs] μ L K KP := by
  refine acall_of_aw mix fnRecov (by simp) ?_
  unfold acRecov
  simp only [wkB, wkC, kernP, rd, rds, reduceIte, Nat.reduceEqDiff, Nat.reduceAdd, binop, intOp_mul, unop, shiftOp, strOp, isNil, fillElems, fillParts, elemZero, FQ, LeaveA, resA, resPV, resPVs, PV.fits, PV.flat, PV.leaf, Nat.reduceBEq, Nat.reduceLT, Nat.reduceLeDiff, Int.reduceLT, Int.reduceLE, Int.reduceToNat]
  refine aw_loop (fun m σ => ∃ es vs0 rs1 o tk1, m = rs1.length ∧ rs.map (·.2) = vs0 ++ rs1.map (·.2) ∧ es.length ≤ rs.length ∧ es.length + rs1.length = rs.length ∧ RepL TEntry es vs0 ∧ Chain xs o rs1 ∧ endOf o rs1 = endOf 0 rs ∧ σ.t 0 = .sl tk 1 xs ∧ σ.t 4 = .sl tk1 22 es ∧ σ.t 5 = .int .i64 (o : Nat) ∧ σ.df = [] ∧
    (∀ x, μ x ≠ none → σ.μ x = μ x) ∧ TkS L .full σ.L tk1) rs.length ⟨[], [], rs, 0, .full, rfl, rfl, by simp, by simp, trivial, hc, rfl, ?_⟩ ?_
  · simp only [wkB, wkC, kernP, rd, rds, reduceIte, Nat.reduceEqDiff, Nat.reduceAdd, binop, intOp_mul, unop, shiftOp, strOp, isNil, fillElems, fillParts, elemZero, FQ, LeaveA, resA, resPV, resPVs, PV.fits, PV.flat, PV.leaf, Nat.reduceBEq, Nat.reduceLT, Nat.reduceLeDiff, Int.reduceLT, Int.reduceLE, Int.reduceToNat]
    exact ⟨rfl, fun x _ => trivial, .refl (.inl rfl)⟩
  · rintro m ⟨t, μ1, L1, df⟩ ⟨es, vs0, rs1, o, tk1, rfl, hvs, hle, hle2, hes, hch, hend, t0, t4, t5, hdf, hfr, hts⟩
    simp only at t0 t4 t5 hdf hfr hts
    subst hdf
    have ho := chain_le hch
    have a1 : (0 : Int) ≤ ((o : Nat) : Int) := by omega
    have a2 : ((o : Nat) : Int) ≤ (xs.length : Int) := by omega
    simp only [wkB, wkC, kernP, rd, rds, reduceIte, Nat.reduceEqDiff, Nat.reduceAdd, binop, intOp_mul, unop, shiftOp, strOp, isNil, fillElems, fillParts, elemZero, FQ, LeaveA, resA, resPV, resPVs, PV.fits, PV.flat, PV.leaf, Nat.reduceBEq, Nat.reduceLT, Nat.reduceLeDiff, Int.reduceLT, Int.reduceLE, Int.reduceToNat, t0, t4, t5, boundsOf, hiOf, maxOk, a1, a2, Option.isSome_none, List.take_length]
    cases rs1 with
    | nil =>
      refine record_none hch.2 (by rw [List.length_drop]; omega) ?_
      intro μ2 hμ2
      have z1 : TEntry.zeroCs.length = 22 := rfl
      have z2 : TEntry.zeroCs.all PV.leaf = true := rfl
      have z3 : ((0 : Int) == 0) = true := rfl
      simp only [wkB, wkC, kernP, rd, rds, reduceIte, Nat.reduceEqDiff, Nat.reduceAdd, binop, intOp_mul, unop, shiftOp, strOp, isNil, fillElems, fillParts, elemZero, FQ, LeaveA, resA, resPV, resPVs, PV.fits, PV.flat, PV.leaf, Nat.reduceBEq, Nat.reduceLT, Nat.reduceLeDiff, Int.reduceLT, Int.reduceLE, Int.reduceToNat, t0, t4, t5, z1, z2, z3]
      intro e0 he0
      refine aw_draw (by decide) (fun _ _ _ h => h) ?_
      simp only [wkB, wkC, kernP, rd, rds, reduceIte, Nat.reduceEqDiff, Nat.reduceAdd, binop, intOp_mul, unop, shiftOp, strOp, isNil, fillElems, fillParts, elemZero, FQ, LeaveA, resA, resPV, resPVs, PV.fits, PV.flat, PV.leaf, Nat.reduceBEq, Nat.reduceLT, Nat.reduceLeDiff, Int.reduceLT, Int.reduceLE, Int.reduceToNat, t0, t4, t5, boundsOf, hiOf, maxOk, a1, a2, Option.isSome_some, cutTok]
      refine ⟨_, rfl, ?_⟩
      have hvs' : vs0 = rs.map (·.2) := by rw [hvs]; simp
      have hend' : o = endOf 0 rs := hend
      rw [hend']
      refine hK tk1 es _ _ (hvs' ▸ hes) ⟨?_, hts.1, fun c hc => hts.2 c hc (by simp)⟩
      intro x hx
      have hx1 : μ1 x ≠ none := by rw [hfr x hx]; exact hx
      have ne : x ≠ e0 := fun e => hx1 (by rw [← hμ2 x hx1, e]; exact he0.1)
      simp only [Mem.set, ne, if_false]
      rw [hμ2 x hx1, hfr x hx]
    | cons r rs1 =>
      obtain ⟨ws, v⟩ := r
      obtain ⟨_, hr, hch'⟩ := hch
      refine record_ok hr.len (by rw [List.length_drop]; omega) hr.w0 hr.w hr.wd hr.vis ?_
      intro cs' μ2 L2 q1 q2 q3
      have hl : cs'.length = 22 := q1.length
      have hlv : cs'.all PV.leaf = true := List.all_eq_true.2 q1.leaves
      have z0 : ∀ d, spl TEntry.zeroCs 0 22 d = d := fun d => spl_all rfl
      have z1 : TEntry.zeroCs.length = 22 := rfl
      have z3 : ((16 + 8 * (ws.length : Int)) == 0) = false := by simp; omega
      have z4 : cs'.take 22 = cs' := List.take_of_length_le (by omega)
      simp only [wkB, wkC, kernP, rd, rds, reduceIte, Nat.reduceEqDiff, Nat.reduceAdd, binop, intOp_mul, unop, shiftOp, strOp, isNil, fillElems, fillParts, elemZero, FQ, LeaveA, resA, resPV, resPVs, PV.fits, PV.flat, PV.leaf, Nat.reduceBEq, Nat.reduceLT, Nat.reduceLeDiff, Int.reduceLT, Int.reduceLE, Int.reduceToNat, t0, t4, t5, z0, z1, z3, hl, hlv, z4]
      intro e0 he0
      have hlen := hr.len
      rw [List.length_drop] at hlen
      refine app_tok (xs := es) (ys := [.agg cs']) (tk := tk1) (tk2 := .full) (by simp only [wkB, wkC, kernP, rd, rds, reduceIte, Nat.reduceEqDiff, Nat.reduceAdd, binop, intOp_mul, unop, shiftOp, strOp, isNil, fillElems, fillParts, elemZero, FQ, LeaveA, resA, resPV, resPVs, PV.fits, PV.flat, PV.leaf, Nat.reduceBEq, Nat.reduceLT, Nat.reduceLeDiff, Int.reduceLT, Int.reduceLE, Int.reduceToNat, t4]) (by simp only [wkB, wkC, kernP, rd, rds, reduceIte, Nat.reduceEqDiff, Nat.reduceAdd, binop, intOp_mul, unop, shiftOp, strOp, isNil, fillElems, fillParts, elemZero, FQ, LeaveA, resA, resPV, resPVs, PV.fits, PV.flat, PV.leaf, Nat.reduceBEq, Nat.reduceLT, Nat.reduceLeDiff, Int.reduceLT, Int.reduceLE, Int.reduceToNat]) (by
        rcases hts.1 with e | ⟨a, e1, e2⟩
        · exact .inl e
        · exact .inr ⟨a, e1, q3 a e2⟩) (by simp; omega) ?_
      intro b hb'
      have z5 : IntKind.wrap .i64 (((o : Nat) : Int) + (16 + 8 * (ws.length : Int))) = ((o + (16 + 8 * ws.length) : Nat) : Int) := by rw [IntWalk.i64_in _ (by omega)]; omega
      simp only [wkB, wkC, kernP, rd, rds, reduceIte, Nat.reduceEqDiff, Nat.reduceAdd, binop, intOp_mul, unop, shiftOp, strOp, isNil, fillElems, fillParts, elemZero, FQ, LeaveA, resA, resPV, resPVs, PV.fits, PV.flat, PV.leaf, Nat.reduceBEq, Nat.reduceLT, Nat.reduceLeDiff, Int.reduceLT, Int.reduceLE, Int.reduceToNat, t0, t4, t5, z5]
      refine ⟨rs1.length, by simp, es ++ [.agg cs'], vs0 ++ [v], rs1, o + (16 + 8 * ws.length), .tk b, rfl, by rw [hvs]; simp, ?_, ?_, All2.snoc hes (by simpa [PV.flat] using q1), hch', hend, ?_⟩
      · simp at hle2 ⊢; omega
      · simp at hle2 ⊢; omega
      · refine ⟨rfl, rfl, ?_, ?_⟩
        · intro x hx
          have hx1 : μ1 x ≠ none := by rw [hfr x hx]; exact hx
          have ne : x ≠ e0 := fun e => hx1 (by rw [← q2 x hx1, e]; exact he0.1)
          simp only [Mem.set, ne, if_false]
          rw [q2 x hx1, hfr x hx]
        · have h2 : TkS L .full L2 tk1 := by
            refine ⟨?_, fun c h1 h2 => ⟨q3 c (hts.2 c h1 h2).1, (hts.2 c h1 h2).2⟩⟩
            rcases hts.1 with e | ⟨a, e1, e2⟩
            · exact .inl e
            · exact .inr ⟨a, e1, q3 a e2⟩
          exact h2.step hb'

end Go.Bm

/- recovered. -/
namespace Go.Bm
open Go Go.Proofs

theorem agg47 : aggOf Tryz.prog 47 = some (some 2) := by kernel_rfl

theorem recovered_ok {tk : Tok} {xs : List PV} {rs : List (List Int × TEntry.den)} {μ : Mem} {L : Lv} {K KP : KA} (hb : xs.length < 1099511627776) (hn : rs.length < 1000000) (hc : Chain xs 0 rs)
    (hK : ∀ tk' es μ' L', RepL TEntry es (rs.map (·.2)) → Keeps μ L μ' L' tk' → K (.agg [.sl tk' 22 es, .sl .full 1 (xs.take (endOf 0 rs))]) μ' L') : ACall Tryz.prog 7 [.sl tk 1 xs] μ L K KP := by
  refine acall_of_aw mix fn7 (by simp) ?_
  unfold ac7
  simp only [wkB, wkC, kernP, rd, rds, reduceIte, Nat.reduceEqDiff, Nat.reduceAdd, binop, intOp_mul, unop, shiftOp, strOp, isNil, fillElems, fillParts, elemZero, FQ, LeaveA, resA, resPV, resPVs, PV.fits, PV.flat, PV.leaf, Nat.reduceBEq, Nat.reduceLT, Nat.reduceLeDiff, Int.reduceLT, Int.reduceLE, Int.reduceToNat]
  intro r0 hr0
  refine recov_ok hb hn hc ?_
  intro tk' es μ1 L1 h1 h2
  have g : μ1 r0 = some (.cells [.sl .full 22 [], .sl .full 1 []]) := by rw [h2.1 r0 (by simp [Mem.set])]; simp [Mem.set]
  simp only [wkB, wkC, kernP, rd, rds, reduceIte, Nat.reduceEqDiff, Nat.reduceAdd, binop, intOp_mul, unop, shiftOp, strOp, isNil, fillElems, fillParts, elemZero, FQ, LeaveA, resA, resPV, resPVs, PV.fits, PV.flat, PV.leaf, Nat.reduceBEq, Nat.reduceLT, Nat.reduceLeDiff, Int.reduceLT, Int.reduceLE, Int.reduceToNat, g, spl, agg47]
  refine ⟨_, rfl, hK tk' es _ _ h1 ⟨?_, h2.2⟩⟩
  intro x hx
  have ne : x ≠ r0 := fun e => hx (by rw [e]; exact hr0.1)
  simp only [Mem.set, ne, if_false]
  rw [h2.1 x (by simpa [Mem.set, ne] using hx)]
  simp [Mem.set, ne]

end Go.Bm

/- Plain laws: bytes of numbers. -/
namespace Go.Bm
open Go Go.Proofs

/-- A number of bytes, low bytes first. -/
def natOf (F : Nat → Nat) : Nat → Nat
  | 0 => 0
  | k + 1 => natOf F k + F k * 2 ^ (8 * k)

theorem natOf_lt {F : Nat → Nat} (hF : ∀ k, F k < 256) : ∀ k, natOf F k < 2 ^ (8 * k)
  | 0 => by simp [natOf]
  | k + 1 => by
    have h1 := natOf_lt hF k
    have h2 := hF k
    have h3 : F k * 2 ^ (8 * k) ≤ 255 * 2 ^ (8 * k) := Nat.mul_le_mul_right _ (by omega)
    have h4 : 2 ^ (8 * (k + 1)) = 256 * 2 ^ (8 * k) := by rw [Nat.mul_add, Nat.pow_add]; omega
    simp only [natOf]; omega

theorem natOf_byte {F : Nat → Nat} (hF : ∀ k, F k < 256) : ∀ (n k : Nat), k < n → natOf F n / 2 ^ (8 * k) % 256 = F k
  | 0, k, h => by omega
  | n + 1, k, h => by
    have hpos : 0 < 2 ^ (8 * k) := Nat.pos_of_ne_zero (by simp)
    simp only [natOf]
    by_cases e : k = n
    · subst e
      rw [Nat.add_mul_div_right _ _ hpos, Nat.div_eq_of_lt (natOf_lt hF k), Nat.zero_add, Nat.mod_eq_of_lt (hF k)]
    · have hk : k < n := by omega
      obtain ⟨d, rfl⟩ : ∃ d, n = k + 1 + d := ⟨n - (k + 1), by omega⟩
      have h4 : F (k + 1 + d) * 2 ^ (8 * (k + 1 + d)) = (F (k + 1 + d) * 2 ^ (8 * d)) * 256 * 2 ^ (8 * k) := by
        rw [show 8 * (k + 1 + d) = 8 * d + (8 + 8 * k) by omega, Nat.pow_add, Nat.pow_add, Nat.mul_assoc, Nat.mul_assoc]
      rw [h4, Nat.add_mul_div_right _ _ hpos, Nat.add_mul_mod_self_right, natOf_byte hF _ k hk]

theorem or_nat {a b : Nat} (ha : a < 2 ^ 64) (hb : b < 2 ^ 64) : bitsOp .or .u64 (a : Int) (b : Int) = ((a ||| b : Nat) : Int) := by
  have hor : a ||| b < 2 ^ 64 := Nat.or_lt_two_pow ha hb
  simp only [bitsOp]
  have e1 : (BitVec.ofInt IntKind.u64.bits (a : Int)) = BitVec.ofNat 64 a := BitVec.ofInt_natCast 64 a
  have e2 : (BitVec.ofInt IntKind.u64.bits (b : Int)) = BitVec.ofNat 64 b := BitVec.ofInt_natCast 64 b
  rw [e1, e2]
  have e3 : (BitVec.ofNat 64 a ||| BitVec.ofNat 64 b).toNat = a ||| b := by
    rw [BitVec.toNat_or, BitVec.toNat_ofNat, BitVec.toNat_ofNat, Nat.mod_eq_of_lt ha, Nat.mod_eq_of_lt hb]
  show IntKind.wrap .u64 (((BitVec.ofNat 64 a ||| BitVec.ofNat 64 b).toNat : Nat) : Int) = _
  rw [e3]
  exact IntWalk.u64_in _ (by omega)

theorem or_step {a f k : Nat} (hk : k < 8) (ha : a < 2 ^ (8 * k)) (hf : f < 256) : bitsOp .or .u64 (a : Int) (IntKind.wrap .u64 (IntKind.wrap .u64 (f : Int) * 2 ^ (min (8 * k) IntKind.u64.bits))) = ((a + f * 2 ^ (8 * k) : Nat) : Int) := by
  have hm : min (8 * k) IntKind.u64.bits = 8 * k := by show min (8 * k) 64 = _; omega
  have hp : 2 ^ (8 * k) * 256 ≤ 2 ^ 64 := by
    rw [show (256 : Nat) = 2 ^ 8 by rfl, ← Nat.pow_add]; exact Nat.pow_le_pow_right (by decide) (by omega)
  have hfl : f * 2 ^ (8 * k) < 2 ^ 64 := by
    have : f * 2 ^ (8 * k) ≤ 255 * 2 ^ (8 * k) := Nat.mul_le_mul_right _ (by omega)
    have := Nat.pos_of_ne_zero (show 2 ^ (8 * k) ≠ 0 by simp)
    omega
  have e1 : IntKind.wrap .u64 (f : Int) = (f : Int) := IntWalk.u64_in _ (by omega)
  have e2 : (f : Int) * 2 ^ (8 * k) = ((f * 2 ^ (8 * k) : Nat) : Int) := by simp
  have e3 : IntKind.wrap .u64 ((f * 2 ^ (8 * k) : Nat) : Int) = ((f * 2 ^ (8 * k) : Nat) : Int) := IntWalk.u64_in _ (by omega)
  rw [hm, e1, e2, e3, or_nat (by have := Nat.pos_of_ne_zero (show 2 ^ (8 * k) ≠ 0 by simp); omega) hfl]
  congr 1
  rw [Nat.or_comm, ← Nat.shiftLeft_eq, ← Nat.shiftLeft_add_eq_or_of_lt ha, Nat.add_comm]

theorem getR_nat {F : Nat → Nat} {f : Nat → Int} (hF : ∀ k, F k < 256) (hf : ∀ k, k < 8 → f k = (F k : Int)) : ∀ k, k ≤ 8 → getR f k = (natOf F k : Int)
  | 0, _ => rfl
  | k + 1, h => by
    simp only [getR, natOf]
    rw [getR_nat hF hf k (by omega), hf k (by omega)]
    exact or_step (by omega) (natOf_lt hF k) (hF k)

theorem packR_nat {F : Nat → Nat} {c : List Int} (hF : ∀ k, F k < 256) (hf : ∀ k, k < c.length → c.getD k 0 = (F k : Int)) (h8 : c.length ≤ 8) : ∀ k, k ≤ c.length → packR c k = (natOf F k : Int)
  | 0, _ => rfl
  | k + 1, h => by
    simp only [packR, natOf]
    rw [packR_nat hF hf h8 k (by omega), hf k (by omega)]
    exact or_step (by omega) (natOf_lt hF k) (hF k)

theorem wrapU64 (n : Int) : IntKind.u64.wrap n = n % 18446744073709551616 := by simp [IntKind.wrap, IntKind.bits, IntKind.signed]

def byteF (n : Int) (k : Nat) : Nat := (n % 18446744073709551616).toNat / 2 ^ (8 * k) % 256

theorem byteF_lt (n : Int) (k : Nat) : byteF n k < 256 := Nat.mod_lt _ (by decide)

theorem byteAt_F (n : Int) : ∀ k, k < 8 → byteAt n k = (byteF n k : Int) := by
  intro k hk
  unfold byteAt byteF
  rw [Int.fdiv_eq_ediv_of_nonneg _ (Int.pow_nonneg (by decide)), IntKind.wrap_u8]
  match k, hk with
  | 0, _ => simp; omega
  | 1, _ => simp; omega
  | 2, _ => simp; omega
  | 3, _ => simp; omega
  | 4, _ => simp; omega
  | 5, _ => simp; omega
  | 6, _ => simp; omega
  | 7, _ => simp; omega

theorem natOf_byteF (n : Int) : natOf (byteF n) 8 = (n % 18446744073709551616).toNat := by
  have h : (n % 18446744073709551616).toNat < 18446744073709551616 := by omega
  simp only [natOf, byteF]
  generalize (n % 18446744073709551616).toNat = N at h
  simp only [Nat.reduceMul, Nat.reducePow, Nat.reduceAdd]
  omega

theorem get_put {n : Int} (h : -9223372036854775808 ≤ n ∧ n ≤ 9223372036854775807) : IntKind.wrap .i64 (getR (byteAt n) 8) = n := by
  rw [getR_nat (byteF_lt n) (byteAt_F n) 8 (by decide), natOf_byteF, IntKind.wrap_i64]
  omega

/-- Bytes are bytes. -/
def Byt (l : List Int) : Prop := ∀ x ∈ l, 0 ≤ x ∧ x < 256

theorem unpack_pack {c : List Int} (hc : Byt c) (h8 : c.length ≤ 8) : unpack (IntKind.wrap .u64 (IntKind.wrap .i64 (packR c c.length))) c.length = c ∧
    (c.length = 8 ∨ (IntKind.wrap .u64 (IntKind.wrap .i64 (packR c c.length))).fdiv (2 ^ (min (8 * c.length) IntKind.u64.bits)) = 0) ∧ -9223372036854775808 ≤ IntKind.wrap .i64 (packR c c.length) ∧ IntKind.wrap .i64 (packR c c.length) ≤ 9223372036854775807 := by
  have hF : ∀ k, (fun k => if k < c.length then (c.getD k 0).toNat else 0) k < 256 := by
    intro k
    show (if k < c.length then (c.getD k 0).toNat else 0) < 256
    split
    · rename_i h
      have := hc (c[k]) (List.getElem_mem h)
      rw [List.getD_eq_getElem?_getD, List.getElem?_eq_getElem h]
      simp only [Option.getD_some]; omega
    · decide
  generalize hFF : (fun k => if k < c.length then (c.getD k 0).toNat else 0) = F at hF
  have hf : ∀ k, k < c.length → c.getD k 0 = (F k : Int) := by
    intro k h
    rw [← hFF]
    simp only [h, if_true]
    have := hc (c[k]) (List.getElem_mem h)
    rw [List.getD_eq_getElem?_getD, List.getElem?_eq_getElem h]
    simp only [Option.getD_some]; omega
  rw [packR_nat hF hf h8 _ (Nat.le_refl _)]
  have hlt := natOf_lt hF c.length
  have hle : natOf F c.length < 2 ^ 64 := Nat.lt_of_lt_of_le hlt (Nat.pow_le_pow_right (by decide) (by omega))
  have hw : IntKind.wrap .u64 (IntKind.wrap .i64 (natOf F c.length : Int)) = (natOf F c.length : Int) := by
    rw [wrapU64, IntKind.wrap_i64]; omega
  rw [hw]
  have hdiv : ∀ k, k ≤ 8 → ((natOf F c.length : Int)).fdiv (2 ^ (min (8 * k) IntKind.u64.bits)) = ((natOf F c.length / 2 ^ (8 * k) : Nat) : Int) := by
    intro k hk
    have hm : min (8 * k) IntKind.u64.bits = 8 * k := by show min (8 * k) 64 = _; omega
    rw [hm, Int.fdiv_eq_ediv_of_nonneg _ (Int.pow_nonneg (by decide))]
    simp
  refine ⟨?_, ?_, ?_, ?_⟩
  · unfold unpack
    apply List.ext_getElem
    · simp
    · intro k h1 h2
      have hk : k < c.length := h2
      simp only [List.getElem_map, List.getElem_range]
      rw [hdiv k (by omega), IntKind.wrap_u8]
      have hb := natOf_byte hF _ k hk
      have := hf k hk
      rw [List.getD_eq_getElem?_getD, List.getElem?_eq_getElem hk] at this
      simp only [Option.getD_some] at this
      omega
  · right
    rw [hdiv _ h8, Nat.div_eq_of_lt hlt]; rfl
  · rw [IntKind.wrap_i64]; omega
  · rw [IntKind.wrap_i64]; omega

end Go.Bm

/- Plain laws: what is written is read again. -/
namespace Go.Bm
open Go Go.Proofs

def I64 (n : Int) : Prop := -9223372036854775808 ≤ n ∧ n ≤ 9223372036854775807

def packC (c : List Int) : Int := IntKind.wrap .i64 (packR c c.length)

def OkV : (T : Ty) → T.den → Prop
  | .int, n => I64 n
  | .bool, _ => True
  | .bytes, l => Byt l ∧ l.length ≤ wmax
  | .list t, vs => vs.length ≤ wmax ∧ ∀ v ∈ vs, OkV t v
  | .pair a b, (x, y) => OkV a x ∧ OkV b y

def wordsV : (T : Ty) → T.den → List Int
  | .int, n => [(n : Int)]
  | .bool, b => [if b then 1 else 0]
  | .bytes, l => (l.length : Int) :: (chunks8 l.length l).map packC
  | .list t, vs => (vs.length : Int) :: vs.flatMap (wordsV t)
  | .pair a b, (x, y) => wordsV a x ++ wordsV b y

theorem wordsV_pos : ∀ (T : Ty) (v : T.den), 1 ≤ (wordsV T v).length
  | .int, _ => by simp [wordsV]
  | .bool, _ => by simp [wordsV]
  | .bytes, _ => by simp [wordsV]
  | .list _, _ => by simp [wordsV]
  | .pair a b, (x, y) => by simp only [wordsV, List.length_append]; have := wordsV_pos a x; omega

theorem chunks8_flat : ∀ (f : Nat) (l : List Int), l.length ≤ f → (chunks8 f l).flatten = l
  | 0, l, h => by
    have : l = [] := List.eq_nil_of_length_eq_zero (by omega)
    subst this; rfl
  | f + 1, [], _ => rfl
  | f + 1, x :: xs, h => by
    have e : chunks8 (f + 1) (x :: xs) = (x :: xs).take 8 :: chunks8 f ((x :: xs).drop 8) := rfl
    rw [e, List.flatten_cons, chunks8_flat f _ (by simp at h ⊢; omega), List.take_append_drop]

theorem chunks8_count : ∀ (f : Nat) (l : List Int), l.length ≤ f → l.length ≤ 8 * (chunks8 f l).length
  | 0, l, h => by omega
  | f + 1, [], _ => by simp
  | f + 1, x :: xs, h => by
    have e : chunks8 (f + 1) (x :: xs) = (x :: xs).take 8 :: chunks8 f ((x :: xs).drop 8) := rfl
    have := chunks8_count f ((x :: xs).drop 8) (by simp at h ⊢; omega)
    rw [e]
    simp at this ⊢; omega

theorem visitC_enc {c ws : List Int} (hc : Byt c) (h8 : c.length ≤ 8) (hw : ws.length < wmax) : visitC .enc c ws = some (c, ws ++ [packC c]) := by
  obtain ⟨h1, h2, _⟩ := unpack_pack hc h8
  simp only [visitC, Md.num, hw, if_true, h2, h1]
  rfl

theorem visitC_dec {c z r : List Int} (hc : Byt c) (h8 : c.length ≤ 8) (hz : z.length = c.length) : visitC .dec z (packC c :: r) = some (c, r) := by
  obtain ⟨h1, h2, _⟩ := unpack_pack hc h8
  simp only [visitC, Md.num, packC, hz, h2, if_true, h1]

theorem chunks_enc : ∀ (f : Nat) (l ws : List Int), Byt l → ws.length + (chunks8 f l).length ≤ wmax → visitL (visitC .enc) (chunks8 f l) ws = some (chunks8 f l, ws ++ (chunks8 f l).map packC)
  | 0, l, ws, _, _ => by simp [chunks8, visitL]
  | f + 1, [], ws, _, _ => by simp [chunks8, visitL]
  | f + 1, x :: xs, ws, hb, hl => by
    have e : chunks8 (f + 1) (x :: xs) = (x :: xs).take 8 :: chunks8 f ((x :: xs).drop 8) := rfl
    rw [e] at hl ⊢
    rw [List.length_cons] at hl
    have hb1 : Byt ((x :: xs).take 8) := fun y hy => hb y (List.mem_of_mem_take hy)
    have hb2 : Byt ((x :: xs).drop 8) := fun y hy => hb y (List.mem_of_mem_drop hy)
    simp only [visitL]
    rw [visitC_enc hb1 (by rw [List.length_take]; omega) (by omega)]
    simp only
    rw [chunks_enc f _ (ws ++ [packC ((x :: xs).take 8)]) hb2 (by rw [List.length_append, List.length_singleton]; omega)]
    simp only [List.map_cons, List.append_assoc, List.singleton_append]

theorem chunks_dec : ∀ (f : Nat) (l z r : List Int), Byt l → z.length = l.length → visitL (visitC .dec) (chunks8 f z) ((chunks8 f l).map packC ++ r) = some (chunks8 f l, r)
  | 0, l, z, r, _, _ => by simp [chunks8, visitL]
  | f + 1, [], [], r, _, _ => by simp [chunks8, visitL]
  | f + 1, x :: xs, y :: ys, r, hb, hl => by
    have e : chunks8 (f + 1) (x :: xs) = (x :: xs).take 8 :: chunks8 f ((x :: xs).drop 8) := rfl
    have e' : chunks8 (f + 1) (y :: ys) = (y :: ys).take 8 :: chunks8 f ((y :: ys).drop 8) := rfl
    rw [e, e']
    have hb1 : Byt ((x :: xs).take 8) := fun y hy => hb y (List.mem_of_mem_take hy)
    have hb2 : Byt ((x :: xs).drop 8) := fun y hy => hb y (List.mem_of_mem_drop hy)
    simp only [visitL, List.map_cons, List.cons_append]
    rw [visitC_dec hb1 (by rw [List.length_take]; omega) (by rw [List.length_take, List.length_take, hl])]
    simp only
    rw [chunks_dec f _ _ r hb2 (by rw [List.length_drop, List.length_drop, hl])]
  | f + 1, [], _ :: _, _, _, h => by simp at h
  | f + 1, _ :: _, [], _, _, h => by simp at h

theorem sized_same {α : Type} (m : Md) (z : α) (c : Nat) (xs : List α) (ws : List Int) (h : xs.length ≤ wmax) : sized m z c xs (xs.length : Int) ws = some xs := by
  simp only [sized, if_true]; rw [if_neg (by omega)]

theorem list_enc {t : Ty} (ih : ∀ (v : t.den) (ws : List Int), OkV t v → ws.length + (wordsV t v).length ≤ wmax → visit .enc t v ws = some (v, ws ++ wordsV t v)) :
    ∀ (vs : List t.den) (ws : List Int), (∀ v ∈ vs, OkV t v) → ws.length + (vs.flatMap (wordsV t)).length ≤ wmax → visitL (visit .enc t) vs ws = some (vs, ws ++ vs.flatMap (wordsV t))
  | [], ws, _, _ => by simp [visitL]
  | v :: vs, ws, hv, hl => by
    rw [List.flatMap_cons, List.length_append] at hl
    simp only [visitL]
    rw [ih v ws (hv v (by simp)) (by omega)]
    simp only
    rw [list_enc ih vs _ (fun u hu => hv u (by simp [hu])) (by rw [List.length_append]; omega)]
    simp only [List.flatMap_cons, List.append_assoc]

theorem visit_enc : ∀ (T : Ty) (v : T.den) (ws : List Int), OkV T v → ws.length + (wordsV T v).length ≤ wmax → visit .enc T v ws = some (v, ws ++ wordsV T v)
  | .int, n, ws, _, h => by
    have h' : ws.length < wmax := by simp [wordsV] at h; omega
    simp only [visit, Md.num, h', if_true, wordsV]
  | .bool, b, ws, _, h => by
    have h' : ws.length < wmax := by simp [wordsV] at h; omega
    simp only [visit, Md.num, h', if_true, wordsV]
    cases b <;> rfl
  | .bytes, l, ws, hv, h => by
    simp only [wordsV, List.length_cons, List.length_map] at h
    have h' : ws.length < wmax := by omega
    simp only [visit, Md.num, h', if_true, sized_same _ _ _ l _ hv.2]
    rw [chunks_enc l.length l _ hv.1 (by rw [List.length_append, List.length_singleton]; omega)]
    simp only [chunks8_flat l.length l (Nat.le_refl _), wordsV, List.append_assoc, List.singleton_append]
  | .list t, vs, ws, hv, h => by
    simp only [wordsV, List.length_cons] at h
    have h' : ws.length < wmax := by omega
    simp only [visit, Md.num, h', if_true, sized_same _ _ _ vs _ hv.1]
    rw [list_enc (fun v ws => visit_enc t v ws) vs _ hv.2 (by rw [List.length_append, List.length_singleton]; omega)]
    simp only [wordsV, List.append_assoc, List.singleton_append]
  | .pair a b, (x, y), ws, hv, h => by
    simp only [wordsV, List.length_append] at h
    simp only [visit]
    rw [visit_enc a x ws hv.1 (by omega)]
    simp only
    rw [visit_enc b y _ hv.2 (by rw [List.length_append]; omega)]
    simp only [wordsV, List.append_assoc]

theorem list_dec {t : Ty} (ih : ∀ (v : t.den) (r : List Int), OkV t v → visit .dec t t.zero (wordsV t v ++ r) = some (v, r)) :
    ∀ (vs : List t.den) (r : List Int), (∀ v ∈ vs, OkV t v) → visitL (visit .dec t) (List.replicate vs.length t.zero) (vs.flatMap (wordsV t) ++ r) = some (vs, r)
  | [], r, _ => by simp [visitL]
  | v :: vs, r, hv => by
    rw [List.length_cons, List.replicate_succ, List.flatMap_cons, List.append_assoc]
    simp only [visitL]
    rw [ih v _ (hv v (by simp))]
    simp only
    rw [list_dec ih vs r (fun u hu => hv u (by simp [hu]))]

theorem flatMap_pos {t : Ty} : ∀ (vs : List t.den), vs.length ≤ (vs.flatMap (wordsV t)).length
  | [] => by simp
  | v :: vs => by
    rw [List.flatMap_cons, List.length_append, List.length_cons]
    have := wordsV_pos t v
    have := flatMap_pos vs
    omega

theorem visit_dec : ∀ (T : Ty) (v : T.den) (r : List Int), OkV T v → visit .dec T T.zero (wordsV T v ++ r) = some (v, r)
  | .int, n, r, _ => rfl
  | .bool, b, r, _ => by cases b <;> rfl
  | .bytes, l, r, hv => by
    simp only [visit, wordsV, List.cons_append, Md.num, Ty.zero, sized]
    rw [if_neg (by simp)]
    by_cases h0 : l = []
    · subst h0; rfl
    · have hl : l.length ≠ 0 := fun e => h0 (List.eq_nil_of_length_eq_zero e)
      rw [if_neg (by simp; exact h0), if_pos ⟨trivial, by omega, by rw [List.length_append, List.length_map]; have := chunks8_count l.length l (Nat.le_refl _); push_cast; omega⟩]
      simp only [Int.toNat_natCast, List.length_replicate]
      rw [chunks_dec l.length l (List.replicate l.length 0) r hv.1 (by simp)]
      simp only [chunks8_flat l.length l (Nat.le_refl _)]
  | .list t, vs, r, hv => by
    simp only [visit, wordsV, List.cons_append, Md.num, Ty.zero, sized]
    rw [if_neg (by simp)]
    by_cases h0 : vs = []
    · subst h0; rfl
    · have hl : vs.length ≠ 0 := fun e => h0 (List.eq_nil_of_length_eq_zero e)
      rw [if_neg (by simp; exact h0), if_pos ⟨trivial, by omega, by rw [List.length_append]; have := flatMap_pos vs; push_cast; omega⟩]
      simp only [Int.toNat_natCast]
      rw [list_dec (fun v r => visit_dec t v r) vs r hv.2]
  | .pair a b, (x, y), r, hv => by
    simp only [visit, wordsV, Ty.zero, List.append_assoc]
    rw [visit_dec a x _ hv.1]
    simp only
    rw [visit_dec b y r hv.2]

end Go.Bm

/- What Encode wrote is a record. -/
namespace Go.Bm
open Go Go.Proofs

theorem wrap_i64_range (x : Int) : I64 (IntKind.wrap .i64 x) := by
  unfold I64; rw [IntKind.wrap_i64]; omega

theorem wordsV_i64 : ∀ {T : Ty} {v : T.den}, OkV T v → ∀ w ∈ wordsV T v, I64 w
  | .int, n, h, w, hw => by
    simp only [wordsV, List.mem_singleton] at hw; subst hw; exact h
  | .bool, b, _, w, hw => by
    simp only [wordsV, List.mem_singleton] at hw; subst hw; cases b <;> (unfold I64; simp)
  | .bytes, l, h, w, hw => by
    simp only [wordsV, List.mem_cons, List.mem_map] at hw
    rcases hw with rfl | ⟨c, _, rfl⟩
    · have := h.2; unfold wmax at this; unfold I64; omega
    · exact wrap_i64_range _
  | .list t, vs, h, w, hw => by
    simp only [wordsV, List.mem_cons, List.mem_flatMap] at hw
    rcases hw with rfl | ⟨v, hv, hw⟩
    · have := h.1; unfold wmax at this; unfold I64; omega
    · exact wordsV_i64 (h.2 v hv) w hw
  | .pair a b, (x, y), h, w, hw => by
    simp only [wordsV, List.mem_append] at hw
    rcases hw with hw | hw
    · exact wordsV_i64 h.1 w hw
    · exact wordsV_i64 h.2 w hw

theorem leB_get (n : Int) {j : Nat} (hj : j < 8) : (leB n 8)[j]? = some (.int .u8 (byteAt n j)) := by simp [leB, hj]

theorem flat_get : ∀ (ws : List Int) {k j : Nat} (hk : k < ws.length), j < 8 → (ws.flatMap (fun w => leB w 8))[8 * k + j]? = some (.int .u8 (byteAt ws[k] j))
  | [], k, j, hk, _ => by simp at hk
  | w :: ws, 0, j, hk, hj => by
    rw [List.flatMap_cons, Nat.mul_zero, Nat.zero_add, List.getElem?_append_left (by rw [leB_len]; exact hj)]
    exact leB_get w hj
  | w :: ws, k + 1, j, hk, hj => by
    rw [List.flatMap_cons, List.getElem?_append_right (by rw [leB_len]; omega), leB_len, show 8 * (k + 1) + j - 8 = 8 * k + j by omega]
    simpa using flat_get ws (k := k) (by simpa using hk) hj

theorem encB_len (ws : List Int) : (encB ws).length = 8 * (ws.length + 2) := by
  simp only [encB, List.length_append, leB_len, flatMap_leB_len]; omega

theorem wordAt_of {xs : List PV} {o : Nat} {n : Int} (hn : I64 n) (h : ∀ j, j < 8 → xs[o + j]? = some (.int .u8 (byteAt n j))) : WordAt xs o n := ⟨byteAt n, h, get_put hn⟩

theorem recAt_enc {v : TEntry.den} {rest : List PV} (hok : OkV TEntry v) (hlen : (wordsV TEntry v).length ≤ wmax) : RecAt (encB (wordsV TEntry v) ++ rest) (wordsV TEntry v) v := by
  have hv := visit_dec TEntry v [] hok
  rw [List.append_nil] at hv
  have hi := wordsV_i64 hok
  generalize wordsV TEntry v = ws at *
  have hl := encB_len ws
  unfold wmax at hlen
  refine ⟨by rw [List.length_append, hl]; omega, ?_, ?_, ?_, hv⟩
  · refine wordAt_of (by unfold I64; omega) (fun j hj => ?_)
    rw [Nat.zero_add, List.getElem?_append_left (by omega), encB, List.getElem?_append_left (by rw [List.length_append, leB_len]; omega), List.getElem?_append_left (by rw [leB_len]; omega)]
    exact leB_get _ hj
  · intro k hk
    refine wordAt_of (hi _ (List.getElem_mem hk)) (fun j hj => ?_)
    rw [List.getElem?_append_left (by omega), encB, List.getElem?_append_left (by rw [List.length_append, leB_len, flatMap_leB_len]; omega), List.getElem?_append_right (by rw [leB_len]; omega), leB_len,
      show 8 + 8 * k + j - 8 = 8 * k + j by omega]
    exact flat_get ws hk hj
  · refine wordAt_of (wrap_i64_range _) (fun j hj => ?_)
    rw [List.getElem?_append_left (by omega), encB, List.getElem?_append_right (by rw [List.length_append, leB_len, flatMap_leB_len]; omega)]
    rw [List.length_append, leB_len, flatMap_leB_len, show 8 + 8 * ws.length + j - (8 + 8 * ws.length) = j by omega]
    exact leB_get _ hj

/-- A record cut short is none. -/
theorem recEnd_cut {v : TEntry.den} {k : Nat} (hlen : (wordsV TEntry v).length ≤ wmax) (hk : k < (encB (wordsV TEntry v)).length) : RecEnd ((encB (wordsV TEntry v)).take k) := by
  generalize wordsV TEntry v = ws at *
  have hl := encB_len ws
  unfold wmax at hlen
  have htl : ((encB ws).take k).length = k := by rw [List.length_take]; omega
  by_cases h16 : k < 16
  · exact .inl (by omega)
  · refine .inr ⟨by omega, (ws.length : Int), wordAt_of (by unfold I64; omega) (fun j hj => ?_), by omega, ?_⟩
    · rw [Nat.zero_add, List.getElem?_take_of_lt (by omega), encB, List.getElem?_append_left (by rw [List.length_append, leB_len]; omega), List.getElem?_append_left (by rw [leB_len]; omega)]
      exact leB_get _ hj
    · rw [htl]; omega

theorem recEnd_nil : RecEnd [] := .inl (by simp)

end Go.Bm
