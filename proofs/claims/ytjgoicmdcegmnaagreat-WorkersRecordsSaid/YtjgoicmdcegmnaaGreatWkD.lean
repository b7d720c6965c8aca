/- Walks: the words of an entry, as the reference has them. -/
import Derived.Test.YtjgoicmdcegmnaaGreatWkC
import Derived.Test.YtjgoicmdcegmnaaGreatAcB

set_option linter.unusedVariables false
set_option linter.unusedSimpArgs false

/- The words of an entry, as the reference has them: small ones. -/
namespace Go.Bm
open Go Go.Proofs

section
theorem flat_agg {cs : List PV} : (PV.agg cs).flat = cs := Eq.trans rfl rfl
theorem flat_int {k : IntKind} {n : Int} : (PV.int k n).flat = [.int k n] := Eq.trans rfl rfl
theorem flat_bool {b : Bool} : (PV.bool b).flat = [.bool b] := Eq.trans rfl rfl
theorem flat_sl {t : Tok} {sz : Nat} {xs : List PV} : (PV.sl t sz xs).flat = [.sl t sz xs] := Eq.trans rfl rfl
theorem flat_slv {i o n sz : Nat} : (PV.slv i o n sz).flat = [.slv i o n sz] := Eq.trans rfl rfl
theorem flat_ptr {i o : Nat} : (PV.ptr i o).flat = [.ptr i o] := Eq.trans rfl rfl
theorem flat_fn {f : Nat} {a b : List PV} : (PV.fn f a b).flat = [.fn f a b] := Eq.trans rfl rfl
theorem flat_nilf : (PV.nilf).flat = [.nilf] := Eq.trans rfl rfl
theorem flat_nilp : (PV.nilp).flat = [.nilp] := Eq.trans rfl rfl
end

theorem wkF : type_of% (And.intro (And.intro (And.intro @flat_agg @flat_int) (And.intro @flat_bool @flat_sl)) (And.intro (And.intro @flat_slv @flat_ptr) (And.intro @flat_fn (And.intro @flat_nilf @flat_nilp)))) := And.intro (And.intro (And.intro @flat_agg @flat_int) (And.intro @flat_bool @flat_sl)) (And.intro (And.intro @flat_slv @flat_ptr) (And.intro @flat_fn (And.intro @flat_nilf @flat_nilp)))

theorem All2.append {α β : Type} {R : α → β → Prop} : ∀ {xs xs' : List α} {ys ys' : List β}, All2 R xs ys → All2 R xs' ys' → All2 R (xs ++ xs') (ys ++ ys')
  | [], _, [], _, _, h => h
  | _ :: _, _, _ :: _, _, h, h' => ⟨h.1, All2.append h.2 h'⟩
  | [], _, _ :: _, _, h, _ => h.elim
  | _ :: _, _, [], _, h, _ => h.elim

theorem repL_ints : ∀ (ws : List Int), RepL .int (ints ws) ws
  | [] => trivial
  | w :: ws => ⟨rfl, repL_ints ws⟩

theorem All2.get {α β : Type} {R : α → β → Prop} : ∀ {xs : List α} {ys : List β} {k : Nat}, All2 R xs ys → (h : k < xs.length) → (h' : k < ys.length) → R xs[k] ys[k]
  | x :: xs, y :: ys, 0, h, _, _ => h.1
  | x :: xs, y :: ys, k + 1, h, h1, h2 => by simpa using All2.get h.2 (k := k) (by simpa using h1) (by simpa using h2)
  | [], _, _, _, h, _ => by simp at h
  | _ :: _, [], _, h, _, _ => h.elim

/-- A function gives these words, and keeps the rest. -/
def GivesW (f : Nat) (args : List PV) (ws : List Int) : Prop := ∀ (μ : Mem) (L : Lv) (K KP : KA), (∀ tk' es μ' L', RepL .int es ws → Keeps μ L μ' L' tk' → K (.sl tk' 1 es) μ' L') → ACall Tryz.prog f args μ L K KP

theorem Keeps.mv {μ : Mem} {L : Lv} {b : Nat} {μ' : Mem} (hb : Fresh μ L b) (h : ∀ x, μ x ≠ none → μ' x = μ x) : Keeps μ L μ' (L.mv .full b) (.tk b) :=
  ⟨h, .inr ⟨b, rfl, .inl rfl⟩, fun c hc => ⟨.inr ⟨hc, by simp⟩, fun e => by cases e; exact hb.2 hc⟩⟩

theorem rints_ok {tk : Tok} {xs : List PV} {vs : List Int} (hx : RepL .int xs vs) (hb : xs.length < 1099511627776) : GivesW 88 [.sl tk 1 xs] ((vs.length : Int) :: vs) := by
  intro μ L K KP hK
  refine acall_of_aw mix fn88 (by simp) ?_
  unfold ac88
  simp only [wkB, wkC, kernP, rd, rds, reduceIte, Nat.reduceEqDiff, Nat.reduceAdd, binop, intOp_mul, unop, shiftOp, strOp, isNil, fillElems, fillParts, elemZero, FQ, LeaveA, resA, resPV, resPVs, PV.fits, PV.flat, PV.leaf, Nat.reduceBEq, Nat.reduceLT, Nat.reduceLeDiff, Int.reduceLT, Int.reduceLE, Int.reduceToNat]
  refine app_tok (xs := [.int .i64 (xs.length : Nat)]) (ys := xs) (tk := .full) (tk2 := tk) (by simp only [wkB, wkC, kernP, rd, rds, reduceIte, Nat.reduceEqDiff, Nat.reduceAdd, binop, intOp_mul, unop, shiftOp, strOp, isNil, fillElems, fillParts, elemZero, FQ, LeaveA, resA, resPV, resPVs, PV.fits, PV.flat, PV.leaf, Nat.reduceBEq, Nat.reduceLT, Nat.reduceLeDiff, Int.reduceLT, Int.reduceLE, Int.reduceToNat]) (by simp only [wkB, wkC, kernP, rd, rds, reduceIte, Nat.reduceEqDiff, Nat.reduceAdd, binop, intOp_mul, unop, shiftOp, strOp, isNil, fillElems, fillParts, elemZero, FQ, LeaveA, resA, resPV, resPVs, PV.fits, PV.flat, PV.leaf, Nat.reduceBEq, Nat.reduceLT, Nat.reduceLeDiff, Int.reduceLT, Int.reduceLE, Int.reduceToNat]) (.inl rfl) (by simp; omega) ?_
  intro b hb'
  simp only [wkB, wkC, kernP, rd, rds, reduceIte, Nat.reduceEqDiff, Nat.reduceAdd, binop, intOp_mul, unop, shiftOp, strOp, isNil, fillElems, fillParts, elemZero, FQ, LeaveA, resA, resPV, resPVs, PV.fits, PV.flat, PV.leaf, Nat.reduceBEq, Nat.reduceLT, Nat.reduceLeDiff, Int.reduceLT, Int.reduceLE, Int.reduceToNat]
  refine ⟨_, rfl, hK _ _ _ _ ⟨?_, hx⟩ (Keeps.mv hb' (fun _ _ => rfl))⟩
  rw [All2.length hx]; rfl

theorem rabs_ok {cs : List PV} {v : TAbs.den} (hr : Rep TAbs cs v) : GivesW 148 [.agg cs] (Ty.toL 4 v) := by
  intro μ L K KP hK
  have e := rep_nums 4 hr
  have hl := toL_length 4 v
  generalize hw : Ty.toL 4 v = ws at *
  subst e
  match ws, hl with
  | [a, b, c, d, f], _ =>
    refine acall_of_aw mix fn148 (by simp) ?_
    unfold ac148
    simp only [wkB, wkC, kernP, rd, rds, reduceIte, Nat.reduceEqDiff, Nat.reduceAdd, binop, intOp_mul, unop, shiftOp, strOp, isNil, fillElems, fillParts, elemZero, FQ, LeaveA, resA, resPV, resPVs, PV.fits, PV.flat, PV.leaf, Nat.reduceBEq, Nat.reduceLT, Nat.reduceLeDiff, Int.reduceLT, Int.reduceLE, Int.reduceToNat, ints]
    exact ⟨_, rfl, hK _ _ _ _ (repL_ints [a, b, c, d, f]) ⟨fun _ _ => rfl, .inl rfl, fun c hc => ⟨hc, by simp⟩⟩⟩

theorem same_ints {tk tk2 : Tok} {xs ys : List PV} {ws : List Int} {μ : Mem} {L : Lv} {K KP : KA} (hx : RepL .int xs ws) (hy : RepL .int ys ws) (hb : xs.length < 1099511627776) (hK : K (.bool true) μ L) : ACall Tryz.prog 37 [.sl tk 1 xs, .sl tk2 1 ys] μ L K KP := by
  refine acall_of_aw mix fn37 (by simp) ?_
  unfold ac37
  have hxl := All2.length hx
  have hyl := All2.length hy
  have e0 : (((xs.length : Nat) : Int) != ((ys.length : Nat) : Int)) = false := by simp [hxl, hyl]
  simp only [wkB, wkC, kernP, rd, rds, reduceIte, Nat.reduceEqDiff, Nat.reduceAdd, binop, intOp_mul, unop, shiftOp, strOp, isNil, fillElems, fillParts, elemZero, FQ, LeaveA, resA, resPV, resPVs, PV.fits, PV.flat, PV.leaf, Nat.reduceBEq, Nat.reduceLT, Nat.reduceLeDiff, Int.reduceLT, Int.reduceLE, Int.reduceToNat, e0]
  refine aw_loop (fun m σ => ∃ k, m = xs.length - k ∧ k ≤ xs.length ∧ σ.t 0 = .sl tk 1 xs ∧ σ.t 1 = .sl tk2 1 ys ∧ σ.t 5 = .int .i64 (k : Nat) ∧ σ.μ = μ ∧ σ.L = L ∧ σ.df = []) xs.length ⟨0, by omega, by omega, ?_⟩ ?_
  · simp only [wkB, wkC, kernP, rd, rds, reduceIte, Nat.reduceEqDiff, Nat.reduceAdd, binop, intOp_mul, unop, shiftOp, strOp, isNil, fillElems, fillParts, elemZero, FQ, LeaveA, resA, resPV, resPVs, PV.fits, PV.flat, PV.leaf, Nat.reduceBEq, Nat.reduceLT, Nat.reduceLeDiff, Int.reduceLT, Int.reduceLE, Int.reduceToNat]
    simp
  · rintro m ⟨t, μ', L', df⟩ ⟨k, rfl, hk, t0, t1, t5, h1, h2, h3⟩
    simp only at t0 t1 t5 h1 h2 h3
    subst h1; subst h2; subst h3
    by_cases hlt : k < xs.length
    · have e1 : decide (((k : Nat) : Int) < (xs.length : Int)) = true := by simpa using hlt
      have e2 : (0 : Int) ≤ ((k : Nat) : Int) := by omega
      have gx := All2.get hx hlt (by omega)
      have gy := All2.get hy (k := k) (by omega) (by omega)
      have gx' : (xs[k]).flat = [.int .i64 ws[k]] := gx
      have gy' : (ys[k]).flat = [.int .i64 ws[k]] := gy
      have e3 : xs[k]? = some xs[k] := List.getElem?_eq_getElem hlt
      have e4 : ys[k]? = some ys[k] := List.getElem?_eq_getElem (by omega)
      have e5 : IntKind.wrap .i64 (((k : Nat) : Int) + 1) = ((k + 1 : Nat) : Int) := by rw [IntWalk.i64_in _ (by omega)]; rfl
      simp only [wkB, wkC, kernP, rd, rds, reduceIte, Nat.reduceEqDiff, Nat.reduceAdd, binop, intOp_mul, unop, shiftOp, strOp, isNil, fillElems, fillParts, elemZero, FQ, LeaveA, resA, resPV, resPVs, PV.fits, PV.flat, PV.leaf, Nat.reduceBEq, Nat.reduceLT, Nat.reduceLeDiff, Int.reduceLT, Int.reduceLE, Int.reduceToNat, t0, t1, t5, e1]
      refine aw_draw (by decide) (fun _ _ _ h => h) ?_
      have e6 : (ws[k] != ws[k]) = false := by simp
      simp only [wkB, wkC, kernP, rd, rds, reduceIte, Nat.reduceEqDiff, Nat.reduceAdd, binop, intOp_mul, unop, shiftOp, strOp, isNil, fillElems, fillParts, elemZero, FQ, LeaveA, resA, resPV, resPVs, PV.fits, wkF, PV.leaf, Nat.reduceBEq, Nat.reduceLT, Nat.reduceLeDiff, Int.reduceLT, Int.reduceLE, Int.reduceToNat, t0, t1, t5, e2, e3, e4, gx', gy', e5, e6]
      exact ⟨_, by omega, k + 1, rfl, by omega, by simp⟩
    · have e1 : decide (((k : Nat) : Int) < (xs.length : Int)) = false := by simp only [decide_eq_false_iff_not]; omega
      simp only [wkB, wkC, kernP, rd, rds, reduceIte, Nat.reduceEqDiff, Nat.reduceAdd, binop, intOp_mul, unop, shiftOp, strOp, isNil, fillElems, fillParts, elemZero, FQ, LeaveA, resA, resPV, resPVs, PV.fits, PV.flat, PV.leaf, Nat.reduceBEq, Nat.reduceLT, Nat.reduceLeDiff, Int.reduceLT, Int.reduceLE, Int.reduceToNat, t0, t1, t5, e1]
      exact ⟨_, rfl, hK⟩

end Go.Bm

/- The words of an entry, as the reference has them: pairs. -/
namespace Go.Bm
open Go Go.Proofs

def rwPairs (vs : List (Ty.nums 2).den) : List Int := (vs.length : Int) :: vs.flatMap (Ty.toL 2)

theorem TkS.keeps {μ : Mem} {L L' : Lv} {tk : Tok} {μ' : Mem} (h : TkS L .full L' tk) (hf : ∀ x, μ x ≠ none → μ' x = μ x) : Keeps μ L μ' L' tk := ⟨hf, h.1, fun c hc => h.2 c hc (by simp)⟩

theorem rpairs_ok {tk : Tok} {xs : List PV} {vs : List (Ty.nums 2).den} (hx : RepL (.nums 2) xs vs) (hb : xs.length < 1099511627776) : GivesW 87 [.sl tk 3 xs] (rwPairs vs) := by
  intro μ L K KP hK
  refine acall_of_aw mix fn87 (by simp) ?_
  unfold ac87
  have hxl := All2.length hx
  simp only [wkB, wkC, kernP, rd, rds, reduceIte, Nat.reduceEqDiff, Nat.reduceAdd, binop, intOp_mul, unop, shiftOp, strOp, isNil, fillElems, fillParts, elemZero, FQ, LeaveA, resA, resPV, resPVs, PV.fits, wkF, PV.leaf, Nat.reduceBEq, Nat.reduceLT, Nat.reduceLeDiff, Int.reduceLT, Int.reduceLE, Int.reduceToNat]
  refine aw_loop (fun m σ => ∃ k es tk', m = xs.length - k ∧ k ≤ xs.length ∧ σ.t 0 = .sl tk 3 xs ∧ σ.t 3 = .sl tk' 1 es ∧ es.length = 1 + 3 * k ∧ RepL .int es ((vs.length : Int) :: (vs.take k).flatMap (Ty.toL 2)) ∧ σ.t 4 = .int .i64 (k : Nat) ∧ σ.μ = μ ∧ TkS L .full σ.L tk' ∧ σ.df = []) xs.length ⟨0, [.int .i64 (xs.length : Nat)], .full, by omega, by omega, ?_⟩ ?_
  · simp only [wkB, wkC, kernP, rd, rds, reduceIte, Nat.reduceEqDiff, Nat.reduceAdd, binop, intOp_mul, unop, shiftOp, strOp, isNil, fillElems, fillParts, elemZero, FQ, LeaveA, resA, resPV, resPVs, PV.fits, wkF, PV.leaf, Nat.reduceBEq, Nat.reduceLT, Nat.reduceLeDiff, Int.reduceLT, Int.reduceLE, Int.reduceToNat]
    refine ⟨⟨?_, trivial⟩, rfl, .refl (.inl rfl)⟩
    rw [hxl]; rfl
  · rintro m ⟨t, μ', L', df⟩ ⟨k, es, tk', rfl, hk, t0, t3, hel, hes, t4, h1, h2, h3⟩
    simp only at t0 t3 t4 h1 h2 h3
    subst h1; subst h3
    by_cases hlt : k < xs.length
    · have e1 : decide (((k : Nat) : Int) < (xs.length : Int)) = true := by simpa using hlt
      have e2 : (0 : Int) ≤ ((k : Nat) : Int) := by omega
      have hkv : k < vs.length := by omega
      have gx := All2.get hx hlt hkv
      have gx' := rep_nums 2 gx
      have hl3 := toL_length 2 vs[k]
      generalize hw : Ty.toL 2 vs[k] = ws at gx' hl3
      match ws, hl3 with
      | [a, b, c], _ =>
        have gx2 : (xs[k]).flat = [.int .i64 a, .int .i64 b, .int .i64 c] := gx'
        have e3 : xs[k]? = some xs[k] := List.getElem?_eq_getElem hlt
        have e5 : IntKind.wrap .i64 (((k : Nat) : Int) + 1) = ((k + 1 : Nat) : Int) := by rw [IntWalk.i64_in _ (by omega)]; rfl
        simp only [wkB, wkC, kernP, rd, rds, reduceIte, Nat.reduceEqDiff, Nat.reduceAdd, binop, intOp_mul, unop, shiftOp, strOp, isNil, fillElems, fillParts, elemZero, FQ, LeaveA, resA, resPV, resPVs, PV.fits, wkF, PV.leaf, Nat.reduceBEq, Nat.reduceLT, Nat.reduceLeDiff, Int.reduceLT, Int.reduceLE, Int.reduceToNat, t0, t3, t4, e1]
        refine aw_draw (by decide) (fun _ _ _ h => h) ?_
        simp only [wkB, wkC, kernP, rd, rds, reduceIte, Nat.reduceEqDiff, Nat.reduceAdd, binop, intOp_mul, unop, shiftOp, strOp, isNil, fillElems, fillParts, elemZero, FQ, LeaveA, resA, resPV, resPVs, PV.fits, wkF, PV.leaf, Nat.reduceBEq, Nat.reduceLT, Nat.reduceLeDiff, Int.reduceLT, Int.reduceLE, Int.reduceToNat, t0, t3, t4, e2, e3, gx2]
        refine app_tok (xs := es) (ys := [.int .i64 a, .int .i64 b, .int .i64 c]) (tk := tk') (tk2 := .full) (by simp only [wkB, wkC, kernP, rd, rds, reduceIte, Nat.reduceEqDiff, Nat.reduceAdd, binop, intOp_mul, unop, shiftOp, strOp, isNil, fillElems, fillParts, elemZero, FQ, LeaveA, resA, resPV, resPVs, PV.fits, wkF, PV.leaf, Nat.reduceBEq, Nat.reduceLT, Nat.reduceLeDiff, Int.reduceLT, Int.reduceLE, Int.reduceToNat]) (by simp only [wkB, wkC, kernP, rd, rds, reduceIte, Nat.reduceEqDiff, Nat.reduceAdd, binop, intOp_mul, unop, shiftOp, strOp, isNil, fillElems, fillParts, elemZero, FQ, LeaveA, resA, resPV, resPVs, PV.fits, wkF, PV.leaf, Nat.reduceBEq, Nat.reduceLT, Nat.reduceLeDiff, Int.reduceLT, Int.reduceLE, Int.reduceToNat]) h2.1 (by simp; omega) ?_
        intro n hn
        simp only [wkB, wkC, kernP, rd, rds, reduceIte, Nat.reduceEqDiff, Nat.reduceAdd, binop, intOp_mul, unop, shiftOp, strOp, isNil, fillElems, fillParts, elemZero, FQ, LeaveA, resA, resPV, resPVs, PV.fits, wkF, PV.leaf, Nat.reduceBEq, Nat.reduceLT, Nat.reduceLeDiff, Int.reduceLT, Int.reduceLE, Int.reduceToNat, t0, t3, t4, e5]
        refine ⟨xs.length - (k + 1), by omega, k + 1, es ++ [.int .i64 a, .int .i64 b, .int .i64 c], .tk n, rfl, by omega, rfl, by simp; omega, ?_, rfl, h2.step hn⟩
        have : (vs.take (k + 1)).flatMap (Ty.toL 2) = (vs.take k).flatMap (Ty.toL 2) ++ [a, b, c] := by
          rw [List.take_add_one, List.getElem?_eq_getElem hkv, Option.toList_some, List.flatMap_append]
          simp [hw]
        rw [this, ← List.cons_append]
        exact All2.append hes (repL_ints [a, b, c])
    · have e1 : decide (((k : Nat) : Int) < (xs.length : Int)) = false := by simp only [decide_eq_false_iff_not]; omega
      simp only [wkB, wkC, kernP, rd, rds, reduceIte, Nat.reduceEqDiff, Nat.reduceAdd, binop, intOp_mul, unop, shiftOp, strOp, isNil, fillElems, fillParts, elemZero, FQ, LeaveA, resA, resPV, resPVs, PV.fits, wkF, PV.leaf, Nat.reduceBEq, Nat.reduceLT, Nat.reduceLeDiff, Int.reduceLT, Int.reduceLE, Int.reduceToNat, t0, t3, t4, e1]
      refine ⟨_, rfl, hK _ _ _ _ ?_ (h2.keeps (fun _ _ => rfl))⟩
      have hkk : vs.take k = vs := List.take_of_length_le (by omega)
      rw [hkk] at hes
      exact hes

end Go.Bm

/- The words of an entry, as the reference has them: what is kept; truth values, summaries. -/
namespace Go.Bm
open Go Go.Proofs

theorem Keeps.refl {μ : Mem} {L : Lv} : Keeps μ L μ L .full := ⟨fun _ _ => rfl, .inl rfl, fun _ hc => ⟨hc, by simp⟩⟩

theorem Keeps.call {μ μ1 μ2 : Mem} {L L1 L2 : Lv} {tk tk2 : Tok} (h : Keeps μ L μ1 L1 tk) (h' : Keeps μ1 L1 μ2 L2 tk2) : Keeps μ L μ2 L2 tk := by
  refine ⟨fun x hx => ?_, ?_, fun c hc => ⟨(h'.2.2 c (h.2.2 c hc).1).1, (h.2.2 c hc).2⟩⟩
  · rw [h'.1 x (by rw [h.1 x hx]; exact hx), h.1 x hx]
  · rcases h.2.1 with e | ⟨a, e, ha⟩
    · exact .inl e
    · exact .inr ⟨a, e, (h'.2.2 a ha).1⟩

theorem Keeps.app {μ μ1 : Mem} {L L1 : Lv} {tk : Tok} {b : Nat} (h : Keeps μ L μ1 L1 tk) (hb : Fresh μ1 L1 b) : Keeps μ L μ1 (L1.mv tk b) (.tk b) :=
  ⟨h.1, .inr ⟨b, rfl, .inl rfl⟩, fun c hc => ⟨.inr ⟨(h.2.2 c hc).1, (h.2.2 c hc).2⟩, fun e => by cases e; exact hb.2 (h.2.2 _ hc).1⟩⟩

theorem Keeps.set {μ μ1 : Mem} {L L1 : Lv} {tk : Tok} {q : Nat} {o : AObj} (h : Keeps μ L μ1 L1 tk) (hq : μ q = none) : Keeps μ L (μ1.set q o) L1 tk := by
  refine ⟨fun x hx => ?_, h.2⟩
  have ne : x ≠ q := fun e => hx (by rw [e]; exact hq)
  simp only [Mem.set, ne, if_false]
  exact h.1 x hx

theorem Keeps.fresh {μ μ1 : Mem} {L L1 : Lv} {tk : Tok} {q : Nat} (h : Keeps μ L μ1 L1 tk) (hq : Fresh μ1 L1 q) : Fresh μ L q := by
  refine ⟨?_, fun hl => hq.2 (h.2.2 q hl).1⟩
  cases hm : μ q with
  | none => rfl
  | some o => have := h.1 q (by rw [hm]; simp); rw [hq.1, hm] at this; cases this

theorem app_out {t : Regs} {μ0 μ : Mem} {L0 L : Lv} {x y : AX} {tk tk2 : Tok} {es ys : List PV} {ws ws2 : List Int} {K : KA} (hk : Keeps μ0 L0 μ L tk) (he : RepL .int es ws) (hy : RepL .int ys ws2) (hx1 : rd t x = .sl tk 1 es) (hy1 : rd t y = .sl tk2 1 ys)
    (hb : (ws ++ ws2).length < 1099511627776) (hK : ∀ b es', Keeps μ0 L0 μ (L.mv tk b) (.tk b) → RepL .int es' (ws ++ ws2) → K (.sl (.tk b) 1 es') μ (L.mv tk b)) : opM (.append 1 8 x y) t μ L K := by
  have h1 := All2.length he
  have h2 := All2.length hy
  rw [List.length_append] at hb
  exact app_tok hx1 hy1 hk.2.1 (by omega) fun b hb => hK b _ (hk.app hb) (All2.append he hy)

theorem flat_take {α β : Type} {f : α → List β} {vs : List α} {k : Nat} (hk : k < vs.length) : (vs.take (k + 1)).flatMap f = (vs.take k).flatMap f ++ f vs[k] := by
  rw [List.take_add_one, List.getElem?_eq_getElem hk, Option.toList_some, List.flatMap_append]
  simp

theorem flat_le {α β : Type} {f : α → List β} {vs : List α} {k : Nat} (hk : k < vs.length) : ((vs.take k).flatMap f).length + (f vs[k]).length ≤ (vs.flatMap f).length := by
  rw [← List.length_append, ← flat_take hk]
  conv => rhs; rw [← List.take_append_drop (k + 1) vs]
  rw [List.flatMap_append, List.length_append]; omega

theorem len_le_flat {α β : Type} {f : α → List β} (hf : ∀ v, 1 ≤ (f v).length) : ∀ (vs : List α), vs.length ≤ (vs.flatMap f).length
  | [] => by simp
  | v :: vs => by rw [List.flatMap_cons, List.length_append, List.length_cons]; have := hf v; have := len_le_flat hf vs; omega

theorem take_all {α : Type} {vs : List α} {k : Nat} (h : vs.length ≤ k) : vs.take k = vs := List.take_of_length_le h

theorem rtruth_ok {b : Bool} {μ : Mem} {L : Lv} {K KP : KA} (hK : K (.int .i64 (if b then 1 else 0)) μ L) : ACall Tryz.prog 147 [.bool b] μ L K KP := by
  refine acall_of_aw mix fn147 (by simp) ?_
  unfold ac147
  cases b
  · simp only [wkB, wkC, kernP, rd, rds, reduceIte, Nat.reduceEqDiff, Nat.reduceAdd, binop, intOp_mul, unop, shiftOp, strOp, isNil, fillElems, fillParts, elemZero, FQ, LeaveA, resA, resPV, resPVs, PV.fits, wkF, PV.leaf, Nat.reduceBEq, Nat.reduceLT, Nat.reduceLeDiff, Int.reduceLT, Int.reduceLE, Int.reduceToNat]
    exact ⟨_, rfl, hK⟩
  · simp only [wkB, wkC, kernP, rd, rds, reduceIte, Nat.reduceEqDiff, Nat.reduceAdd, binop, intOp_mul, unop, shiftOp, strOp, isNil, fillElems, fillParts, elemZero, FQ, LeaveA, resA, resPV, resPVs, PV.fits, wkF, PV.leaf, Nat.reduceBEq, Nat.reduceLT, Nat.reduceLeDiff, Int.reduceLT, Int.reduceLE, Int.reduceToNat]
    exact ⟨_, rfl, hK⟩

def rwSum : TSum.den → List Int
  | (a, ab, n3, ps, e) => (a : Int) :: Ty.toL 4 ab ++ Ty.toL 2 n3 ++ rwPairs ps ++ [(e : Int)]

theorem rsum_ok {cs : List PV} {v : TSum.den} (hr : Rep TSum cs v) (hb : (rwSum v).length < 1099511627776) : GivesW 86 [.agg cs] (rwSum v) := by
  intro μ L K KP hK
  obtain ⟨a, ab, n3, ps, e⟩ := v
  obtain ⟨c1, r1, rfl, h1, c2, r2, rfl, h2, c3, r3, rfl, h3, c4, r4, rfl, h4, h5⟩ := hr
  have h1' : c1 = [PV.int .i64 a] := h1
  have h5' : r4 = [PV.int .i64 e] := h5
  obtain ⟨tkp, xs, h4', hxs⟩ := h4
  have hxs' : RepL (.nums 2) xs ps := hxs
  have hpl := All2.length hxs'
  have habs := rep_nums 4 h2
  have hn3 := rep_nums 2 h3
  have hl4 := toL_length 4 ab
  have hl2 := toL_length 2 n3
  have hrw : rwSum (a, ab, n3, ps, e) = (a : Int) :: Ty.toL 4 ab ++ Ty.toL 2 n3 ++ rwPairs ps ++ [(e : Int)] := rfl
  rw [hrw] at hb
  have hlen : (rwPairs ps).length + 10 ≤ 1099511627775 ∧ xs.length < 1099511627776 := by
    simp only [List.length_append, List.length_cons, List.length_nil, hl4, hl2] at hb
    have h1 : ps.length ≤ (rwPairs ps).length := by
      unfold rwPairs
      rw [List.length_cons]
      have := len_le_flat (f := Ty.toL 2) (fun v => by rw [toL_length]; omega) ps
      omega
    omega
  generalize hw4 : Ty.toL 4 ab = w4 at *
  generalize hw2 : Ty.toL 2 n3 = w2 at *
  match w4, hl4, w2, hl2 with
  | [b0, b1, b2, b3, b4], _, [d0, d1, d2], _ =>
    have hab : GivesW 148 [.agg c2] [b0, b1, b2, b3, b4] := by have := rabs_ok h2; rwa [hw4] at this
    subst h1' h5' h4'
    rw [habs] at hab
    subst habs hn3
    have hs2 : Ty.size (.nums 2) = 3 := rfl
    rw [hs2]
    refine acall_of_aw mix fn86 (by simp) ?_
    unfold ac86
    simp only [wkB, wkC, kernP, rd, rds, reduceIte, Nat.reduceEqDiff, Nat.reduceAdd, binop, intOp_mul, unop, shiftOp, strOp, isNil, fillElems, fillParts, elemZero, FQ, LeaveA, resA, resPV, resPVs, PV.fits, wkF, PV.leaf, Nat.reduceBEq, Nat.reduceLT, Nat.reduceLeDiff, Int.reduceLT, Int.reduceLE, Int.reduceToNat, ints]
    refine aw_drawF (by decide) (fun _ _ _ h => h) ?_
    simp only [wkB, wkC, kernP, rd, rds, reduceIte, Nat.reduceEqDiff, Nat.reduceAdd, binop, intOp_mul, unop, shiftOp, strOp, isNil, fillElems, fillParts, elemZero, FQ, LeaveA, resA, resPV, resPVs, PV.fits, wkF, PV.leaf, Nat.reduceBEq, Nat.reduceLT, Nat.reduceLeDiff, Int.reduceLT, Int.reduceLE, Int.reduceToNat]
    refine hab _ _ _ _ ?_
    intro tk1 es1 μ1 L1 r1 k1
    simp only [wkB, wkC, kernP, rd, rds, reduceIte, Nat.reduceEqDiff, Nat.reduceAdd, binop, intOp_mul, unop, shiftOp, strOp, isNil, fillElems, fillParts, elemZero, FQ, LeaveA, resA, resPV, resPVs, PV.fits, wkF, PV.leaf, Nat.reduceBEq, Nat.reduceLT, Nat.reduceLeDiff, Int.reduceLT, Int.reduceLE, Int.reduceToNat]
    refine app_out (Keeps.refl.call k1) (repL_ints [a]) r1 (by (simp only [rd, upd_app, reduceIte, Nat.reduceEqDiff]); try rfl) (by (simp only [rd, upd_app, reduceIte, Nat.reduceEqDiff]); try rfl) (by simp) ?_
    intro n1 o1 k2 e2
    simp only [wkB, wkC, kernP, rd, rds, reduceIte, Nat.reduceEqDiff, Nat.reduceAdd, binop, intOp_mul, unop, shiftOp, strOp, isNil, fillElems, fillParts, elemZero, FQ, LeaveA, resA, resPV, resPVs, PV.fits, wkF, PV.leaf, Nat.reduceBEq, Nat.reduceLT, Nat.reduceLeDiff, Int.reduceLT, Int.reduceLE, Int.reduceToNat]
    refine app_out k2 e2 (repL_ints [d0, d1, d2]) (by (simp only [rd, upd_app, reduceIte, Nat.reduceEqDiff]); try rfl) (by (simp only [rd, upd_app, reduceIte, Nat.reduceEqDiff]); try rfl) (by simp) ?_
    intro n2 o2 k3 e3
    simp only [wkB, wkC, kernP, rd, rds, reduceIte, Nat.reduceEqDiff, Nat.reduceAdd, binop, intOp_mul, unop, shiftOp, strOp, isNil, fillElems, fillParts, elemZero, FQ, LeaveA, resA, resPV, resPVs, PV.fits, wkF, PV.leaf, Nat.reduceBEq, Nat.reduceLT, Nat.reduceLeDiff, Int.reduceLT, Int.reduceLE, Int.reduceToNat]
    refine rpairs_ok hxs' hlen.2 _ _ _ _ ?_
    intro tk2 es2 μ2 L2 r2 k4
    simp only [wkB, wkC, kernP, rd, rds, reduceIte, Nat.reduceEqDiff, Nat.reduceAdd, binop, intOp_mul, unop, shiftOp, strOp, isNil, fillElems, fillParts, elemZero, FQ, LeaveA, resA, resPV, resPVs, PV.fits, wkF, PV.leaf, Nat.reduceBEq, Nat.reduceLT, Nat.reduceLeDiff, Int.reduceLT, Int.reduceLE, Int.reduceToNat]
    refine app_out (k3.call k4) e3 r2 (by (simp only [rd, upd_app, reduceIte, Nat.reduceEqDiff]); try rfl) (by (simp only [rd, upd_app, reduceIte, Nat.reduceEqDiff]); try rfl) (by simp; omega) ?_
    intro n3 o3 k5 e5
    simp only [wkB, wkC, kernP, rd, rds, reduceIte, Nat.reduceEqDiff, Nat.reduceAdd, binop, intOp_mul, unop, shiftOp, strOp, isNil, fillElems, fillParts, elemZero, FQ, LeaveA, resA, resPV, resPVs, PV.fits, wkF, PV.leaf, Nat.reduceBEq, Nat.reduceLT, Nat.reduceLeDiff, Int.reduceLT, Int.reduceLE, Int.reduceToNat]
    refine app_out k5 e5 (repL_ints [e]) (by (simp only [rd, upd_app, reduceIte, Nat.reduceEqDiff]); try rfl) (by (simp only [rd, upd_app, reduceIte, Nat.reduceEqDiff]); try rfl) (by simp; omega) ?_
    intro n4 o4 k6 e6
    simp only [wkB, wkC, kernP, rd, rds, reduceIte, Nat.reduceEqDiff, Nat.reduceAdd, binop, intOp_mul, unop, shiftOp, strOp, isNil, fillElems, fillParts, elemZero, FQ, LeaveA, resA, resPV, resPVs, PV.fits, wkF, PV.leaf, Nat.reduceBEq, Nat.reduceLT, Nat.reduceLeDiff, Int.reduceLT, Int.reduceLE, Int.reduceToNat]
    exact ⟨_, rfl, hK _ _ _ _ (by rw [hrw]; simpa using e6) k6⟩

end Go.Bm

/- The words of an entry, as the reference has them: bytes. -/
namespace Go.Bm
open Go Go.Proofs

/-- k bytes of a list, from i on, in one number. -/
def orR (zs : List Int) (i : Nat) : Nat → Int
  | 0 => 0
  | k + 1 => bitsOp .or .u64 (orR zs i k) (IntKind.wrap .u64 (IntKind.wrap .u64 (zs.getD (i + k) 0) * 2 ^ (min (8 * k) IntKind.u64.bits)))

def rwByte (zs : List Int) (j : Nat) : Int := IntKind.wrap .i64 (orR zs (8 * j) (min 8 (zs.length - 8 * j)))

def rwBytes (zs : List Int) : List Int := (zs.length : Int) :: (List.range ((zs.length + 7) / 8)).map (rwByte zs)

theorem rbytes_ok {tk : Tok} {zs : List Int} (hb : (rwBytes zs).length < 1099511627776) : GivesW 146 [.sl tk 1 (byts zs)] (rwBytes zs) := by
  intro μ L K KP hK
  simp only [rwBytes, List.length_cons, List.length_map, List.length_range] at hb
  refine acall_of_aw mix fn146 (by simp) ?_
  unfold ac146
  have hbl : (byts zs).length = zs.length := by simp [byts]
  obtain ⟨n, hn⟩ : ∃ n, n = (zs.length + 7) / 8 := ⟨_, rfl⟩
  simp only [wkB, wkC, kernP, rd, rds, reduceIte, Nat.reduceEqDiff, Nat.reduceAdd, binop, intOp_mul, unop, shiftOp, strOp, isNil, fillElems, fillParts, elemZero, FQ, LeaveA, resA, resPV, resPVs, PV.fits, wkF, PV.leaf, Nat.reduceBEq, Nat.reduceLT, Nat.reduceLeDiff, Int.reduceLT, Int.reduceLE, Int.reduceToNat, hbl]
  refine aw_loop (fun m σ => ∃ k es tk', m = n - k ∧ k ≤ n ∧ σ.t 0 = .sl tk 1 (byts zs) ∧ σ.t 3 = .sl tk' 1 es ∧ σ.t 4 = .int .i64 (8 * k : Nat) ∧ RepL .int es ((zs.length : Int) :: (List.range k).map (rwByte zs)) ∧ Keeps μ L σ.μ σ.L tk' ∧ σ.df = []) n ⟨0, [.int .i64 zs.length], .full, by omega, by omega, ?_⟩ ?_
  · simp only [wkB, wkC, kernP, rd, rds, reduceIte, Nat.reduceEqDiff, Nat.reduceAdd, binop, intOp_mul, unop, shiftOp, strOp, isNil, fillElems, fillParts, elemZero, FQ, LeaveA, resA, resPV, resPVs, PV.fits, wkF, PV.leaf, Nat.reduceBEq, Nat.reduceLT, Nat.reduceLeDiff, Int.reduceLT, Int.reduceLE, Int.reduceToNat]
    exact ⟨rfl, ⟨rfl, trivial⟩, .refl⟩
  · rintro m ⟨t, μ', L', df⟩ ⟨k, es, tk', rfl, hk, t0, t3, t4, he, hkp, h3⟩
    simp only at t0 t3 t4 hkp h3
    subst h3
    by_cases hlt : k < n
    · have e1 : decide (((8 * k : Nat) : Int) < (zs.length : Int)) = true := by rw [decide_eq_true_eq]; omega
      simp only [wkB, wkC, kernP, rd, rds, reduceIte, Nat.reduceEqDiff, Nat.reduceAdd, binop, intOp_mul, unop, shiftOp, strOp, isNil, fillElems, fillParts, elemZero, FQ, LeaveA, resA, resPV, resPVs, PV.fits, wkF, PV.leaf, Nat.reduceBEq, Nat.reduceLT, Nat.reduceLeDiff, Int.reduceLT, Int.reduceLE, Int.reduceToNat, t0, t3, t4, hbl, e1]
      obtain ⟨d, hd⟩ : ∃ d, d = min 8 (zs.length - 8 * k) := ⟨_, rfl⟩
      refine aw_loop (fun m σ => ∃ j, m = d - j ∧ j ≤ d ∧ σ.t 0 = .sl tk 1 (byts zs) ∧ σ.t 3 = .sl tk' 1 es ∧ σ.t 4 = .int .i64 (8 * k : Nat) ∧ σ.t 5 = .int .u64 (orR zs (8 * k) j) ∧ σ.t 6 = .int .i64 j ∧ σ.μ = μ' ∧ σ.L = L' ∧ σ.df = []) d ⟨0, by omega, by omega, ?_⟩ ?_
      · simp only [wkB, wkC, kernP, rd, rds, reduceIte, Nat.reduceEqDiff, Nat.reduceAdd, binop, intOp_mul, unop, shiftOp, strOp, isNil, fillElems, fillParts, elemZero, FQ, LeaveA, resA, resPV, resPVs, PV.fits, wkF, PV.leaf, Nat.reduceBEq, Nat.reduceLT, Nat.reduceLeDiff, Int.reduceLT, Int.reduceLE, Int.reduceToNat, t0, t3, t4, orR]
        rfl
      · rintro m ⟨t', μ2, L2, df⟩ ⟨j, rfl, hj, s0, s3, s4, s5, s6, h1, h2, h3⟩
        simp only at s0 s3 s4 s5 s6 h1 h2 h3
        subst h1; subst h2; subst h3
        have e11 : IntKind.wrap .i64 (((8 * k : Nat) : Int) + 8) = ((8 * (k + 1) : Nat) : Int) := by rw [IntWalk.i64_in _ (by omega)]; omega
        have e3 : IntKind.wrap .i64 (((8 * k : Nat) : Int) + (j : Int)) = ((8 * k + j : Nat) : Int) := by rw [IntWalk.i64_in _ (by omega)]; omega
        by_cases hj8 : j < 8
        · have e2 : decide (((j : Nat) : Int) < 8) = true := by rw [decide_eq_true_eq]; omega
          by_cases hjl : 8 * k + j < zs.length
          · have e4 : decide (((8 * k + j : Nat) : Int) < (zs.length : Int)) = true := by rw [decide_eq_true_eq]; omega
            have e5 : (0 : Int) ≤ ((8 * k + j : Nat) : Int) := by omega
            have e6 : (byts zs)[8 * k + j]? = some (.int .u8 (zs.getD (8 * k + j) 0)) := by simp [byts, List.getD_eq_getElem?_getD, hjl]
            have e7 : IntKind.wrap .i64 (8 * (j : Int)) = ((8 * j : Nat) : Int) := by rw [IntWalk.i64_in _ (by omega)]; omega
            have e8 : IntKind.wrap .u64 ((8 * j : Nat) : Int) = ((8 * j : Nat) : Int) := IntWalk.u64_in _ (by omega)
            have e9 : ¬ ((8 * j : Nat) : Int) < 0 := by omega
            have e10 : IntKind.wrap .i64 ((j : Int) + 1) = ((j + 1 : Nat) : Int) := by rw [IntWalk.i64_in _ (by omega)]; rfl
            simp only [wkB, wkC, kernP, rd, rds, reduceIte, Nat.reduceEqDiff, Nat.reduceAdd, binop, intOp_mul, unop, shiftOp, strOp, isNil, fillElems, fillParts, elemZero, FQ, LeaveA, resA, resPV, resPVs, PV.fits, wkF, PV.leaf, Nat.reduceBEq, Nat.reduceLT, Nat.reduceLeDiff, Int.reduceLT, Int.reduceLE, Int.reduceToNat, s0, s3, s4, s5, s6, e2, e3, e4, e5, e6, e7, e8, e9, e10, hbl]
            exact ⟨_, by omega, j + 1, rfl, by omega, rfl, rfl⟩
          · have e4 : decide (((8 * k + j : Nat) : Int) < (zs.length : Int)) = false := by rw [decide_eq_false_iff_not]; omega
            have ej : j = d := by omega
            have ev : IntKind.wrap .i64 (orR zs (8 * k) j) = rwByte zs k := by rw [ej, hd]; rfl
            simp only [wkB, wkC, kernP, rd, rds, reduceIte, Nat.reduceEqDiff, Nat.reduceAdd, binop, intOp_mul, unop, shiftOp, strOp, isNil, fillElems, fillParts, elemZero, FQ, LeaveA, resA, resPV, resPVs, PV.fits, wkF, PV.leaf, Nat.reduceBEq, Nat.reduceLT, Nat.reduceLeDiff, Int.reduceLT, Int.reduceLE, Int.reduceToNat, s0, s3, s4, s5, s6, e2, e3, e4, hbl, ev]
            refine app_out hkp he (repL_ints [rwByte zs k]) (by (simp only [rd, upd_app, reduceIte, Nat.reduceEqDiff]); try rfl) (by (simp only [rd, upd_app, reduceIte, Nat.reduceEqDiff]); try rfl) (by simp; omega) ?_
            intro b o2 k2 he2
            simp only [wkB, wkC, kernP, rd, rds, reduceIte, Nat.reduceEqDiff, Nat.reduceAdd, binop, intOp_mul, unop, shiftOp, strOp, isNil, fillElems, fillParts, elemZero, FQ, LeaveA, resA, resPV, resPVs, PV.fits, wkF, PV.leaf, Nat.reduceBEq, Nat.reduceLT, Nat.reduceLeDiff, Int.reduceLT, Int.reduceLE, Int.reduceToNat, s0, s4, e11]
            refine ⟨n - (k + 1), by omega, k + 1, _, _, rfl, by omega, rfl, rfl, ?_, k2⟩
            rw [List.range_succ, List.map_append]
            exact he2
        · have e2 : decide (((j : Nat) : Int) < 8) = false := by rw [decide_eq_false_iff_not]; omega
          have ej : j = d := by omega
          have ev : IntKind.wrap .i64 (orR zs (8 * k) j) = rwByte zs k := by rw [ej, hd]; rfl
          simp only [wkB, wkC, kernP, rd, rds, reduceIte, Nat.reduceEqDiff, Nat.reduceAdd, binop, intOp_mul, unop, shiftOp, strOp, isNil, fillElems, fillParts, elemZero, FQ, LeaveA, resA, resPV, resPVs, PV.fits, wkF, PV.leaf, Nat.reduceBEq, Nat.reduceLT, Nat.reduceLeDiff, Int.reduceLT, Int.reduceLE, Int.reduceToNat, s0, s3, s4, s5, s6, e2, hbl, ev]
          refine app_out hkp he (repL_ints [rwByte zs k]) (by (simp only [rd, upd_app, reduceIte, Nat.reduceEqDiff]); try rfl) (by (simp only [rd, upd_app, reduceIte, Nat.reduceEqDiff]); try rfl) (by simp; omega) ?_
          intro b o2 k2 he2
          simp only [wkB, wkC, kernP, rd, rds, reduceIte, Nat.reduceEqDiff, Nat.reduceAdd, binop, intOp_mul, unop, shiftOp, strOp, isNil, fillElems, fillParts, elemZero, FQ, LeaveA, resA, resPV, resPVs, PV.fits, wkF, PV.leaf, Nat.reduceBEq, Nat.reduceLT, Nat.reduceLeDiff, Int.reduceLT, Int.reduceLE, Int.reduceToNat, s0, s4, e11]
          refine ⟨n - (k + 1), by omega, k + 1, _, _, rfl, by omega, rfl, rfl, ?_, k2⟩
          rw [List.range_succ, List.map_append]
          exact he2
    · have e1 : decide (((8 * k : Nat) : Int) < (zs.length : Int)) = false := by rw [decide_eq_false_iff_not]; omega
      have ek : k = n := by omega
      simp only [wkB, wkC, kernP, rd, rds, reduceIte, Nat.reduceEqDiff, Nat.reduceAdd, binop, intOp_mul, unop, shiftOp, strOp, isNil, fillElems, fillParts, elemZero, FQ, LeaveA, resA, resPV, resPVs, PV.fits, wkF, PV.leaf, Nat.reduceBEq, Nat.reduceLT, Nat.reduceLeDiff, Int.reduceLT, Int.reduceLE, Int.reduceToNat, t0, t3, t4, hbl, e1]
      refine ⟨_, rfl, hK _ _ _ _ ?_ hkp⟩
      rw [ek, hn] at he
      exact he

end Go.Bm

/- The words of an entry, as the reference has them: needs. -/
namespace Go.Bm
open Go Go.Proofs

def rwInts (vs : List Int) : List Int := (vs.length : Int) :: vs

def rwNeed : TNeed.den → List Int
  | (a, bs, ds, ss, rs, l) => ([(a : Int)] ++ rwBytes bs ++ rwInts ds ++ [((ss : List TSum.den).length : Int)]) ++ (ss : List TSum.den).flatMap rwSum ++ [((rs : List (Ty.nums 9).den).length : Int)] ++ (rs : List (Ty.nums 9).den).flatMap (Ty.toL 9) ++ [(l : Int)]

theorem rwSum_pos : ∀ v : TSum.den, 1 ≤ (rwSum v).length
  | (a, ab, n3, ps, e) => by simp only [rwSum, List.length_append, List.length_cons]; omega

theorem dec_t {k n : Nat} (h : k < n) : decide (((k : Nat) : Int) < (n : Int)) = true := by rw [decide_eq_true_eq]; omega
theorem dec_f {k n : Nat} (h : ¬ k < n) : decide (((k : Nat) : Int) < (n : Int)) = false := by rw [decide_eq_false_iff_not]; omega
theorem inc_k {k : Nat} (h : k < 1099511627776) : IntKind.wrap .i64 (((k : Nat) : Int) + 1) = ((k + 1 : Nat) : Int) := by rw [IntWalk.i64_in _ (by omega)]; rfl
theorem nn_k (k : Nat) : (0 : Int) ≤ (k : Int) := by omega

theorem rneed_ok {cs : List PV} {v : TNeed.den} (hr : Rep TNeed cs v) (hb : (rwNeed v).length < 1099511627776) : GivesW 84 [.agg cs] (rwNeed v) := by
  intro μ L K KP hK
  obtain ⟨a, bs, ds, ss, rs, l⟩ := v
  obtain ⟨c1, r1, rfl, h1, c2, r2, rfl, ⟨tkb, h2⟩, c3, r3, rfl, ⟨tkd, xd, h3, hxd⟩, c4, r4, rfl, ⟨tks, xs, h4, hxs⟩, c5, r5, rfl, ⟨tkr, xr, h5, hxr⟩, h6⟩ := hr
  have h1' : c1 = [PV.int .i64 a] := h1
  have h6' : r5 = [PV.int .i64 l] := h6
  have hxd' : RepL .int xd ds := hxd
  have hxs' : RepL TSum xs ss := hxs
  have hxr' : RepL (.nums 9) xr rs := hxr
  have hld := All2.length hxd'
  have hls := All2.length hxs'
  have hlr := All2.length hxr'
  subst h1' h2 h3 h4 h5 h6'
  have hs1 : Ty.size .int = 1 := rfl
  have hs2 : Ty.size TSum = 11 := rfl
  have hs3 : Ty.size (.nums 9) = 10 := rfl
  rw [hs1, hs2, hs3]
  have hrw : rwNeed (a, bs, ds, ss, rs, l) = ([(a : Int)] ++ rwBytes bs ++ rwInts ds ++ [((ss : List TSum.den).length : Int)]) ++ (ss : List TSum.den).flatMap rwSum ++ [((rs : List (Ty.nums 9).den).length : Int)] ++ (rs : List (Ty.nums 9).den).flatMap (Ty.toL 9) ++ [(l : Int)] := rfl
  rw [hrw] at hb hK
  obtain ⟨pre, hpre⟩ : ∃ pre, pre = [(a : Int)] ++ rwBytes bs ++ rwInts ds ++ [((ss : List TSum.den).length : Int)] := ⟨_, rfl⟩
  have g1 := len_le_flat rwSum_pos ss
  have g2 := len_le_flat (f := Ty.toL 9) (fun v => by rw [toL_length]; omega) rs
  have hbl : bs.length ≤ 8 * (rwBytes bs).length := by simp only [rwBytes, List.length_cons, List.length_map, List.length_range]; omega
  have hdl : xd.length ≤ (rwInts ds).length := by simp only [rwInts, List.length_cons]; omega
  simp only [List.length_append, List.length_cons, List.length_nil] at hb
  refine acall_of_aw mix fn84 (by simp) ?_
  unfold ac84
  simp only [wkB, wkC, kernP, rd, rds, reduceIte, Nat.reduceEqDiff, Nat.reduceAdd, binop, intOp_mul, unop, shiftOp, strOp, isNil, fillElems, fillParts, elemZero, FQ, LeaveA, resA, resPV, resPVs, PV.fits, wkF, PV.leaf, Nat.reduceBEq, Nat.reduceLT, Nat.reduceLeDiff, Int.reduceLT, Int.reduceLE, Int.reduceToNat]
  refine aw_drawF (by decide) (fun _ _ _ h => h) ?_
  simp only [wkB, wkC, kernP, rd, rds, reduceIte, Nat.reduceEqDiff, Nat.reduceAdd, binop, intOp_mul, unop, shiftOp, strOp, isNil, fillElems, fillParts, elemZero, FQ, LeaveA, resA, resPV, resPVs, PV.fits, wkF, PV.leaf, Nat.reduceBEq, Nat.reduceLT, Nat.reduceLeDiff, Int.reduceLT, Int.reduceLE, Int.reduceToNat]
  refine rbytes_ok (by omega) _ _ _ _ ?_
  intro tk1 es1 μ1 L1 q1 k1
  simp only [wkB, wkC, kernP, rd, rds, reduceIte, Nat.reduceEqDiff, Nat.reduceAdd, binop, intOp_mul, unop, shiftOp, strOp, isNil, fillElems, fillParts, elemZero, FQ, LeaveA, resA, resPV, resPVs, PV.fits, wkF, PV.leaf, Nat.reduceBEq, Nat.reduceLT, Nat.reduceLeDiff, Int.reduceLT, Int.reduceLE, Int.reduceToNat]
  refine app_out (Keeps.refl.call k1) (repL_ints [a]) q1 (by (simp only [rd, upd_app, reduceIte, Nat.reduceEqDiff]); try rfl) (by (simp only [rd, upd_app, reduceIte, Nat.reduceEqDiff]); try rfl) (by simp; omega) ?_
  intro n1 o1 k2 e2
  simp only [wkB, wkC, kernP, rd, rds, reduceIte, Nat.reduceEqDiff, Nat.reduceAdd, binop, intOp_mul, unop, shiftOp, strOp, isNil, fillElems, fillParts, elemZero, FQ, LeaveA, resA, resPV, resPVs, PV.fits, wkF, PV.leaf, Nat.reduceBEq, Nat.reduceLT, Nat.reduceLeDiff, Int.reduceLT, Int.reduceLE, Int.reduceToNat]
  refine rints_ok hxd' (by omega) _ _ _ _ ?_
  intro tk2 es2 μ2 L2 q2 k3
  simp only [wkB, wkC, kernP, rd, rds, reduceIte, Nat.reduceEqDiff, Nat.reduceAdd, binop, intOp_mul, unop, shiftOp, strOp, isNil, fillElems, fillParts, elemZero, FQ, LeaveA, resA, resPV, resPVs, PV.fits, wkF, PV.leaf, Nat.reduceBEq, Nat.reduceLT, Nat.reduceLeDiff, Int.reduceLT, Int.reduceLE, Int.reduceToNat]
  refine app_out (k2.call k3) e2 q2 (by (simp only [rd, upd_app, reduceIte, Nat.reduceEqDiff]); try rfl) (by (simp only [rd, upd_app, reduceIte, Nat.reduceEqDiff]); try rfl) (by simp [rwInts] at hb ⊢; omega) ?_
  intro n2 o2 k4 e4
  simp only [wkB, wkC, kernP, rd, rds, reduceIte, Nat.reduceEqDiff, Nat.reduceAdd, binop, intOp_mul, unop, shiftOp, strOp, isNil, fillElems, fillParts, elemZero, FQ, LeaveA, resA, resPV, resPVs, PV.fits, wkF, PV.leaf, Nat.reduceBEq, Nat.reduceLT, Nat.reduceLeDiff, Int.reduceLT, Int.reduceLE, Int.reduceToNat]
  refine app_out k4 e4 (repL_ints [((ss : List TSum.den).length : Int)]) (by (simp only [rd, upd_app, reduceIte, Nat.reduceEqDiff]); try rfl) (by (simp only [rd, upd_app, reduceIte, Nat.reduceEqDiff, hls]); rfl) (by simp [rwInts] at hb ⊢; omega) ?_
  intro n3 o3 k5 e5
  have e5' : RepL .int o3 pre := by rw [hpre]; simpa [rwInts] using e5
  have hpl : pre.length + (ss.flatMap rwSum).length + (rs.flatMap (Ty.toL 9)).length + 2 < 1099511627776 := by rw [hpre]; simp only [List.length_append, List.length_cons, List.length_nil]; omega
  rw [← hpre] at hK
  clear hb e5 hpre hrw
  simp only [wkB, wkC, kernP, rd, rds, reduceIte, Nat.reduceEqDiff, Nat.reduceAdd, binop, intOp_mul, unop, shiftOp, strOp, isNil, fillElems, fillParts, elemZero, FQ, LeaveA, resA, resPV, resPVs, PV.fits, wkF, PV.leaf, Nat.reduceBEq, Nat.reduceLT, Nat.reduceLeDiff, Int.reduceLT, Int.reduceLE, Int.reduceToNat]
  refine aw_loop (fun m σ => ∃ k es tk', m = ss.length - k ∧ k ≤ ss.length ∧ σ.t 1 = .fpp [.int .i64 a, .sl tkb 1 (bs.map (PV.int .u8)), .sl tkd 1 xd, .sl tks 11 xs, .sl tkr 10 xr, .int .i64 l] ∧ σ.t 3 = .sl tk' 1 es ∧ σ.t 4 = .int .i64 k ∧ RepL .int es (pre ++ (ss.take k).flatMap rwSum) ∧ Keeps μ L σ.μ σ.L tk' ∧ σ.df = []) ss.length ⟨0, o3, .tk n3, by omega, by omega, ?_⟩ ?_
  · simp only [wkB, wkC, kernP, rd, rds, reduceIte, Nat.reduceEqDiff, Nat.reduceAdd, binop, intOp_mul, unop, shiftOp, strOp, isNil, fillElems, fillParts, elemZero, FQ, LeaveA, resA, resPV, resPVs, PV.fits, wkF, PV.leaf, Nat.reduceBEq, Nat.reduceLT, Nat.reduceLeDiff, Int.reduceLT, Int.reduceLE, Int.reduceToNat]
    exact ⟨rfl, by simpa using e5', k5⟩
  rintro m ⟨t, μ3, L3, df⟩ ⟨k, es, tk', rfl, hk, t1, t3, t4, he, hkp, h3⟩
  simp only at t1 t3 t4 hkp h3
  subst h3
  by_cases hlt : k < ss.length
  · have ha := All2.get hxs' (by omega) hlt
    have hal := ha.length
    rw [hs2] at hal
    have hat : List.take 11 xs[k].flat = xs[k].flat := List.take_of_length_le (by omega)
    have hf := flat_le (f := rwSum) hlt
    simp only [wkB, wkC, kernP, rd, rds, reduceIte, Nat.reduceEqDiff, Nat.reduceAdd, binop, intOp_mul, unop, shiftOp, strOp, isNil, fillElems, fillParts, elemZero, FQ, LeaveA, resA, resPV, resPVs, PV.fits, wkF, PV.leaf, Nat.reduceBEq, Nat.reduceLT, Nat.reduceLeDiff, Int.reduceLT, Int.reduceLE, Int.reduceToNat, t1, t3, t4, hls, dec_t hlt, inc_k (show k < 1099511627776 by omega), nn_k, List.getElem?_eq_getElem (show k < xs.length by omega), hal, hat]
    refine rsum_ok ha (by omega) _ _ _ _ ?_
    intro tk3 es3 μ4 L4 q3 k6
    simp only [wkB, wkC, kernP, rd, rds, reduceIte, Nat.reduceEqDiff, Nat.reduceAdd, binop, intOp_mul, unop, shiftOp, strOp, isNil, fillElems, fillParts, elemZero, FQ, LeaveA, resA, resPV, resPVs, PV.fits, wkF, PV.leaf, Nat.reduceBEq, Nat.reduceLT, Nat.reduceLeDiff, Int.reduceLT, Int.reduceLE, Int.reduceToNat]
    refine app_out (hkp.call k6) he q3 (by (simp only [rd, upd_app, reduceIte, Nat.reduceEqDiff, t3]); try rfl) (by (simp only [rd, upd_app, reduceIte, Nat.reduceEqDiff]); try rfl) (by simp only [List.length_append]; omega) ?_
    intro n4 o4 k7 e7
    simp only [wkB, wkC, kernP, rd, rds, reduceIte, Nat.reduceEqDiff, Nat.reduceAdd, binop, intOp_mul, unop, shiftOp, strOp, isNil, fillElems, fillParts, elemZero, FQ, LeaveA, resA, resPV, resPVs, PV.fits, wkF, PV.leaf, Nat.reduceBEq, Nat.reduceLT, Nat.reduceLeDiff, Int.reduceLT, Int.reduceLE, Int.reduceToNat, t1, t4, inc_k (show k < 1099511627776 by omega)]
    refine ⟨_, by omega, k + 1, _, _, rfl, by omega, rfl, rfl, ?_, k7⟩
    rw [flat_take hlt, ← List.append_assoc]
    exact e7
  have ek := take_all (vs := ss) (k := k) (by omega)
  rw [ek] at he
  clear ek
  simp only [wkB, wkC, kernP, rd, rds, reduceIte, Nat.reduceEqDiff, Nat.reduceAdd, binop, intOp_mul, unop, shiftOp, strOp, isNil, fillElems, fillParts, elemZero, FQ, LeaveA, resA, resPV, resPVs, PV.fits, wkF, PV.leaf, Nat.reduceBEq, Nat.reduceLT, Nat.reduceLeDiff, Int.reduceLT, Int.reduceLE, Int.reduceToNat, t1, t3, t4, hls, dec_f hlt, hlr]
  refine app_out hkp he (repL_ints [((rs : List (Ty.nums 9).den).length : Int)]) (by (simp only [rd, upd_app, reduceIte, Nat.reduceEqDiff, t3]); try rfl) (by (simp only [rd, upd_app, reduceIte, Nat.reduceEqDiff]); try rfl) (by simp only [List.length_append, List.length_cons, List.length_nil]; omega) ?_
  intro n5 o5 k8 e8
  simp only [wkB, wkC, kernP, rd, rds, reduceIte, Nat.reduceEqDiff, Nat.reduceAdd, binop, intOp_mul, unop, shiftOp, strOp, isNil, fillElems, fillParts, elemZero, FQ, LeaveA, resA, resPV, resPVs, PV.fits, wkF, PV.leaf, Nat.reduceBEq, Nat.reduceLT, Nat.reduceLeDiff, Int.reduceLT, Int.reduceLE, Int.reduceToNat, t1]
  refine aw_loop (fun m σ => ∃ k es tk', m = rs.length - k ∧ k ≤ rs.length ∧ σ.t 1 = .fpp [.int .i64 a, .sl tkb 1 (bs.map (PV.int .u8)), .sl tkd 1 xd, .sl tks 11 xs, .sl tkr 10 xr, .int .i64 l] ∧ σ.t 3 = .sl tk' 1 es ∧ σ.t 5 = .int .i64 k ∧ RepL .int es (pre ++ ss.flatMap rwSum ++ [((rs : List (Ty.nums 9).den).length : Int)] ++ (rs.take k).flatMap (Ty.toL 9)) ∧ Keeps μ L σ.μ σ.L tk' ∧ σ.df = []) rs.length ⟨0, o5, .tk n5, by omega, by omega, ?_⟩ ?_
  · simp only [wkB, wkC, kernP, rd, rds, reduceIte, Nat.reduceEqDiff, Nat.reduceAdd, binop, intOp_mul, unop, shiftOp, strOp, isNil, fillElems, fillParts, elemZero, FQ, LeaveA, resA, resPV, resPVs, PV.fits, wkF, PV.leaf, Nat.reduceBEq, Nat.reduceLT, Nat.reduceLeDiff, Int.reduceLT, Int.reduceLE, Int.reduceToNat]
    exact ⟨t1, rfl, by simpa using e8, k8⟩
  clear t1 t3 t4 hkp he k8 e8
  rintro m ⟨t, μ4, L4, df⟩ ⟨k, es, tk', rfl, hk, t1, t3, t5, he, hkp, h3⟩
  simp only at t1 t3 t5 hkp h3
  subst h3
  by_cases hlt : k < rs.length
  · have ha := All2.get hxr' (by omega) hlt
    have hal := ha.length
    rw [hs3] at hal
    have hat : List.take 10 xr[k].flat = xr[k].flat := List.take_of_length_le (by omega)
    have hf := flat_le (f := Ty.toL 9) hlt
    have hn := rep_nums 9 ha
    have hl9 := toL_length 9 rs[k]
    generalize hw9 : Ty.toL 9 rs[k] = w9 at *
    match w9, hl9 with
    | [w0, w1, w2, w3, w4, w5, w6, w7, w8, w9], _ =>
      have hn' : xr[k].flat = [.int .i64 w0, .int .i64 w1, .int .i64 w2, .int .i64 w3, .int .i64 w4, .int .i64 w5, .int .i64 w6, .int .i64 w7, .int .i64 w8, .int .i64 w9] := hn
      simp only [wkB, wkC, kernP, rd, rds, reduceIte, Nat.reduceEqDiff, Nat.reduceAdd, binop, intOp_mul, unop, shiftOp, strOp, isNil, fillElems, fillParts, elemZero, FQ, LeaveA, resA, resPV, resPVs, PV.fits, wkF, PV.leaf, Nat.reduceBEq, Nat.reduceLT, Nat.reduceLeDiff, Int.reduceLT, Int.reduceLE, Int.reduceToNat, t1, t3, t5, hlr, dec_t hlt, inc_k (show k < 1099511627776 by omega), nn_k, List.getElem?_eq_getElem (show k < xr.length by omega), hn', spl]
      intro q hq
      refine app_out ((hkp.set (hkp.fresh hq).1).set (hkp.fresh hq).1) he (repL_ints [w0, w1, w2, w3, w4, w5, w6, w7, w8, w9]) (by (simp only [rd, upd_app, reduceIte, Nat.reduceEqDiff, t3]); try rfl) (by (simp only [rd, upd_app, reduceIte, Nat.reduceEqDiff]); try rfl) (by simp only [List.length_append, List.length_cons, List.length_nil] at hf ⊢; omega) ?_
      intro n4 o4 k7 e7
      simp only [wkB, wkC, kernP, rd, rds, reduceIte, Nat.reduceEqDiff, Nat.reduceAdd, binop, intOp_mul, unop, shiftOp, strOp, isNil, fillElems, fillParts, elemZero, FQ, LeaveA, resA, resPV, resPVs, PV.fits, wkF, PV.leaf, Nat.reduceBEq, Nat.reduceLT, Nat.reduceLeDiff, Int.reduceLT, Int.reduceLE, Int.reduceToNat, t1, t5, inc_k (show k < 1099511627776 by omega)]
      refine ⟨_, by omega, k + 1, _, _, rfl, by omega, rfl, rfl, ?_, k7⟩
      rw [flat_take hlt, ← List.append_assoc, hw9]
      exact e7
  have ek := take_all (vs := rs) (k := k) (by omega)
  rw [ek] at he
  clear ek
  simp only [wkB, wkC, kernP, rd, rds, reduceIte, Nat.reduceEqDiff, Nat.reduceAdd, binop, intOp_mul, unop, shiftOp, strOp, isNil, fillElems, fillParts, elemZero, FQ, LeaveA, resA, resPV, resPVs, PV.fits, wkF, PV.leaf, Nat.reduceBEq, Nat.reduceLT, Nat.reduceLeDiff, Int.reduceLT, Int.reduceLE, Int.reduceToNat, t1, t3, t5, hlr, dec_f hlt]
  refine app_out hkp he (repL_ints [(l : Int)]) (by (simp only [rd, upd_app, reduceIte, Nat.reduceEqDiff, t3]); try rfl) (by (simp only [rd, upd_app, reduceIte, Nat.reduceEqDiff]); try rfl) (by simp only [List.length_append, List.length_cons, List.length_nil]; omega) ?_
  intro n9 o9 k9 e9
  simp only [wkB, wkC, kernP, rd, rds, reduceIte, Nat.reduceEqDiff, Nat.reduceAdd, binop, intOp_mul, unop, shiftOp, strOp, isNil, fillElems, fillParts, elemZero, FQ, LeaveA, resA, resPV, resPVs, PV.fits, wkF, PV.leaf, Nat.reduceBEq, Nat.reduceLT, Nat.reduceLeDiff, Int.reduceLT, Int.reduceLE, Int.reduceToNat]
  exact ⟨_, rfl, hK _ _ _ _ e9 k9⟩

end Go.Bm

/- The words of an entry, as the reference has them: facts. -/
namespace Go.Bm
open Go Go.Proofs

def rwRef : TRef.den → List Int
  | (s, a) => (s : Int) :: Ty.toL 4 a

def rwFact : TFact.den → List Int
  | (b, vs, gs, rs, ar, n3) => ([if (b : Bool) then 1 else 0, ((vs : List TAbs.den).length : Int)] : List Int) ++ (vs : List TAbs.den).flatMap (Ty.toL 4) ++ [((gs : List (List Int)).length : Int)] ++ (gs : List (List Int)).flatMap rwInts ++ [((rs : List TRef.den).length : Int)] ++ (rs : List TRef.den).flatMap rwRef ++ rwInts ar ++ Ty.toL 2 n3

theorem rfact_ok {cs : List PV} {v : TFact.den} (hr : Rep TFact cs v) (hb : (rwFact v).length < 1099511627776) : GivesW 85 [.agg cs] (rwFact v) := by
  intro μ L K KP hK
  obtain ⟨b, vs, gs, rs, ar, n3⟩ := v
  obtain ⟨c1, r1, rfl, h1, c2, r2, rfl, ⟨tkv, xv, h2, hxv⟩, c3, r3, rfl, ⟨tkg, xg, h3, hxg⟩, c4, r4, rfl, ⟨tkr, xr, h4, hxr⟩, c5, r5, rfl, ⟨tka, xa, h5, hxa⟩, h6⟩ := hr
  have h1' : c1 = [PV.bool b] := h1
  have h6' := rep_nums 2 h6
  have hl3 := toL_length 2 n3
  have hrw : rwFact (b, vs, gs, rs, ar, n3) = ([if (b : Bool) then 1 else 0, ((vs : List TAbs.den).length : Int)] : List Int) ++ (vs : List TAbs.den).flatMap (Ty.toL 4) ++ [((gs : List (List Int)).length : Int)] ++ (gs : List (List Int)).flatMap rwInts ++ [((rs : List TRef.den).length : Int)] ++ (rs : List TRef.den).flatMap rwRef ++ rwInts ar ++ Ty.toL 2 n3 := rfl
  rw [hrw] at hb hK
  generalize hw3 : Ty.toL 2 n3 = w3 at *
  have hxv' : RepL TAbs xv vs := hxv
  have hxg' : RepL (.list .int) xg gs := hxg
  have hxr' : RepL TRef xr rs := hxr
  have hxa' : RepL .int xa ar := hxa
  have hlv := All2.length hxv'
  have hlg := All2.length hxg'
  have hlr := All2.length hxr'
  have hla := All2.length hxa'
  have hs1 : Ty.size .int = 1 := rfl
  have hs2 : Ty.size TAbs = 5 := rfl
  have hs3 : Ty.size TRef = 6 := rfl
  have hs4 : Ty.size (.list .int) = 1 := rfl
  rw [hs1] at h5
  rw [hs2] at h2
  rw [hs3] at h4
  rw [hs4] at h3
  match w3, hl3 with
  | [d0, d1, d2], _ =>
  have h6'' : r5 = [.int .i64 d0, .int .i64 d1, .int .i64 d2] := h6'
  subst h1' h2 h3 h4 h5 h6''
  have g1 := len_le_flat (f := Ty.toL 4) (fun v => by rw [toL_length]; omega) vs
  have g2 := len_le_flat (f := rwInts) (fun v => by simp [rwInts]) gs
  have g3 := len_le_flat (f := rwRef) (fun v => by obtain ⟨s, a⟩ := v; simp [rwRef]) rs
  have hal : xa.length < (rwInts ar).length := by simp only [rwInts, List.length_cons]; omega
  simp only [List.length_append, List.length_cons, List.length_nil] at hb
  refine acall_of_aw mix fn85 (by simp) ?_
  unfold ac85
  simp only [wkB, wkC, kernP, rd, rds, reduceIte, Nat.reduceEqDiff, Nat.reduceAdd, binop, intOp_mul, unop, shiftOp, strOp, isNil, fillElems, fillParts, elemZero, FQ, LeaveA, resA, resPV, resPVs, PV.fits, wkF, PV.leaf, Nat.reduceBEq, Nat.reduceLT, Nat.reduceLeDiff, Int.reduceLT, Int.reduceLE, Int.reduceToNat]
  refine aw_drawF (by decide) (fun _ _ _ h => h) ?_
  simp only [wkB, wkC, kernP, rd, rds, reduceIte, Nat.reduceEqDiff, Nat.reduceAdd, binop, intOp_mul, unop, shiftOp, strOp, isNil, fillElems, fillParts, elemZero, FQ, LeaveA, resA, resPV, resPVs, PV.fits, wkF, PV.leaf, Nat.reduceBEq, Nat.reduceLT, Nat.reduceLeDiff, Int.reduceLT, Int.reduceLE, Int.reduceToNat]
  refine rtruth_ok ?_
  simp only [wkB, wkC, kernP, rd, rds, reduceIte, Nat.reduceEqDiff, Nat.reduceAdd, binop, intOp_mul, unop, shiftOp, strOp, isNil, fillElems, fillParts, elemZero, FQ, LeaveA, resA, resPV, resPVs, PV.fits, wkF, PV.leaf, Nat.reduceBEq, Nat.reduceLT, Nat.reduceLeDiff, Int.reduceLT, Int.reduceLE, Int.reduceToNat, hlv]
  refine aw_loop (fun m σ => ∃ k es tk', m = vs.length - k ∧ k ≤ vs.length ∧ σ.t 1 = .fpp [.bool b, .sl tkv 5 xv, .sl tkg 1 xg, .sl tkr 6 xr, .sl tka 1 xa, .int .i64 d0, .int .i64 d1, .int .i64 d2] ∧ σ.t 3 = .sl tk' 1 es ∧ σ.t 4 = .int .i64 k ∧ RepL .int es (([if (b : Bool) then 1 else 0, ((vs : List TAbs.den).length : Int)] : List Int) ++ (vs.take k).flatMap (Ty.toL 4)) ∧ Keeps μ L σ.μ σ.L tk' ∧ σ.df = []) vs.length ⟨0, [.int .i64 (if (b : Bool) then 1 else 0), .int .i64 (vs.length : Nat)], .full, by omega, by omega, ?_⟩ ?_
  · simp only [wkB, wkC, kernP, rd, rds, reduceIte, Nat.reduceEqDiff, Nat.reduceAdd, binop, intOp_mul, unop, shiftOp, strOp, isNil, fillElems, fillParts, elemZero, FQ, LeaveA, resA, resPV, resPVs, PV.fits, wkF, PV.leaf, Nat.reduceBEq, Nat.reduceLT, Nat.reduceLeDiff, Int.reduceLT, Int.reduceLE, Int.reduceToNat]
    exact ⟨rfl, ⟨rfl, rfl, trivial⟩, .refl⟩
  rintro m ⟨t, μ3, L3, df⟩ ⟨k, es, tk', rfl, hk, t1, t3, t4, he, hkp, h3⟩
  simp only at t1 t3 t4 hkp h3
  subst h3
  by_cases hlt : k < vs.length
  · have ha := All2.get hxv' (by omega) hlt
    have hal := ha.length
    rw [hs2] at hal
    have hat : List.take 5 xv[k].flat = xv[k].flat := List.take_of_length_le (by omega)
    have hf := flat_le (f := Ty.toL 4) hlt
    simp only [wkB, wkC, kernP, rd, rds, reduceIte, Nat.reduceEqDiff, Nat.reduceAdd, binop, intOp_mul, unop, shiftOp, strOp, isNil, fillElems, fillParts, elemZero, FQ, LeaveA, resA, resPV, resPVs, PV.fits, wkF, PV.leaf, Nat.reduceBEq, Nat.reduceLT, Nat.reduceLeDiff, Int.reduceLT, Int.reduceLE, Int.reduceToNat, t1, t3, t4, hlv, dec_t hlt, inc_k (show k < 1099511627776 by omega), nn_k, List.getElem?_eq_getElem (show k < xv.length by omega), hal, hat]
    refine rabs_ok ha _ _ _ _ ?_
    intro tk3 es3 μ4 L4 q3 k6
    simp only [wkB, wkC, kernP, rd, rds, reduceIte, Nat.reduceEqDiff, Nat.reduceAdd, binop, intOp_mul, unop, shiftOp, strOp, isNil, fillElems, fillParts, elemZero, FQ, LeaveA, resA, resPV, resPVs, PV.fits, wkF, PV.leaf, Nat.reduceBEq, Nat.reduceLT, Nat.reduceLeDiff, Int.reduceLT, Int.reduceLE, Int.reduceToNat]
    refine app_out (hkp.call k6) he q3 (by (simp only [rd, upd_app, reduceIte, Nat.reduceEqDiff, t3]); try rfl) (by (simp only [rd, upd_app, reduceIte, Nat.reduceEqDiff]); try rfl) (by simp only [List.length_append, List.length_cons, List.length_nil]; omega) ?_
    intro n4 o4 k7 e7
    simp only [wkB, wkC, kernP, rd, rds, reduceIte, Nat.reduceEqDiff, Nat.reduceAdd, binop, intOp_mul, unop, shiftOp, strOp, isNil, fillElems, fillParts, elemZero, FQ, LeaveA, resA, resPV, resPVs, PV.fits, wkF, PV.leaf, Nat.reduceBEq, Nat.reduceLT, Nat.reduceLeDiff, Int.reduceLT, Int.reduceLE, Int.reduceToNat, t1, t4, inc_k (show k < 1099511627776 by omega)]
    refine ⟨_, by omega, k + 1, _, _, rfl, by omega, rfl, rfl, ?_, k7⟩
    rw [flat_take hlt]
    simpa using e7
  have ek := take_all (vs := vs) (k := k) (by omega)
  rw [ek] at he
  clear ek
  simp only [wkB, wkC, kernP, rd, rds, reduceIte, Nat.reduceEqDiff, Nat.reduceAdd, binop, intOp_mul, unop, shiftOp, strOp, isNil, fillElems, fillParts, elemZero, FQ, LeaveA, resA, resPV, resPVs, PV.fits, wkF, PV.leaf, Nat.reduceBEq, Nat.reduceLT, Nat.reduceLeDiff, Int.reduceLT, Int.reduceLE, Int.reduceToNat, t1, t3, t4, hlv, dec_f hlt, hlg]
  refine app_out hkp he (repL_ints [((gs : List (List Int)).length : Int)]) (by (simp only [rd, upd_app, reduceIte, Nat.reduceEqDiff, t3]); try rfl) (by (simp only [rd, upd_app, reduceIte, Nat.reduceEqDiff]); try rfl) (by simp only [List.length_append, List.length_cons, List.length_nil]; omega) ?_
  intro n5 o5 k8 e8
  simp only [wkB, wkC, kernP, rd, rds, reduceIte, Nat.reduceEqDiff, Nat.reduceAdd, binop, intOp_mul, unop, shiftOp, strOp, isNil, fillElems, fillParts, elemZero, FQ, LeaveA, resA, resPV, resPVs, PV.fits, wkF, PV.leaf, Nat.reduceBEq, Nat.reduceLT, Nat.reduceLeDiff, Int.reduceLT, Int.reduceLE, Int.reduceToNat, t1]
  refine aw_loop (fun m σ => ∃ k es tk', m = gs.length - k ∧ k ≤ gs.length ∧ σ.t 1 = .fpp [.bool b, .sl tkv 5 xv, .sl tkg 1 xg, .sl tkr 6 xr, .sl tka 1 xa, .int .i64 d0, .int .i64 d1, .int .i64 d2] ∧ σ.t 3 = .sl tk' 1 es ∧ σ.t 5 = .int .i64 k ∧ RepL .int es (([if (b : Bool) then 1 else 0, ((vs : List TAbs.den).length : Int)] : List Int) ++ vs.flatMap (Ty.toL 4) ++ [((gs : List (List Int)).length : Int)] ++ (gs.take k).flatMap rwInts) ∧ Keeps μ L σ.μ σ.L tk' ∧ σ.df = []) gs.length ⟨0, o5, .tk n5, by omega, by omega, ?_⟩ ?_
  · simp only [wkB, wkC, kernP, rd, rds, reduceIte, Nat.reduceEqDiff, Nat.reduceAdd, binop, intOp_mul, unop, shiftOp, strOp, isNil, fillElems, fillParts, elemZero, FQ, LeaveA, resA, resPV, resPVs, PV.fits, wkF, PV.leaf, Nat.reduceBEq, Nat.reduceLT, Nat.reduceLeDiff, Int.reduceLT, Int.reduceLE, Int.reduceToNat]
    exact ⟨t1, rfl, by simpa using e8, k8⟩
  clear t1 t3 t4 hkp he k8 e8 hlt hk
  rintro m ⟨t, μ4, L4, df⟩ ⟨k, es, tk', rfl, hk, t1, t3, t5, he, hkp, h3⟩
  simp only at t1 t3 t5 hkp h3
  subst h3
  by_cases hlt : k < gs.length
  · obtain ⟨tky, ys, hy, hys⟩ := All2.get hxg' (by omega) hlt
    rw [hs1] at hy
    have hys' : RepL .int ys gs[k] := hys
    have hyl := All2.length hys'
    have hf := flat_le (f := rwInts) hlt
    have hf2 : (rwInts gs[k]).length = ys.length + 1 := by simp [rwInts, hyl]
    simp only [wkB, wkC, kernP, rd, rds, reduceIte, Nat.reduceEqDiff, Nat.reduceAdd, binop, intOp_mul, unop, shiftOp, strOp, isNil, fillElems, fillParts, elemZero, FQ, LeaveA, resA, resPV, resPVs, PV.fits, wkF, PV.leaf, Nat.reduceBEq, Nat.reduceLT, Nat.reduceLeDiff, Int.reduceLT, Int.reduceLE, Int.reduceToNat, t1, t3, t5, hlg, dec_t hlt, inc_k (show k < 1099511627776 by omega), nn_k, List.getElem?_eq_getElem (show k < xg.length by omega), hy]
    refine rints_ok hys' (by omega) _ _ _ _ ?_
    intro tk3 es3 μ4 L4 q3 k6
    simp only [wkB, wkC, kernP, rd, rds, reduceIte, Nat.reduceEqDiff, Nat.reduceAdd, binop, intOp_mul, unop, shiftOp, strOp, isNil, fillElems, fillParts, elemZero, FQ, LeaveA, resA, resPV, resPVs, PV.fits, wkF, PV.leaf, Nat.reduceBEq, Nat.reduceLT, Nat.reduceLeDiff, Int.reduceLT, Int.reduceLE, Int.reduceToNat]
    refine app_out (hkp.call k6) he q3 (by (simp only [rd, upd_app, reduceIte, Nat.reduceEqDiff, t3]); try rfl) (by (simp only [rd, upd_app, reduceIte, Nat.reduceEqDiff]); try rfl) (by simp only [List.length_append, List.length_cons, List.length_nil]; omega) ?_
    intro n4 o4 k7 e7
    simp only [wkB, wkC, kernP, rd, rds, reduceIte, Nat.reduceEqDiff, Nat.reduceAdd, binop, intOp_mul, unop, shiftOp, strOp, isNil, fillElems, fillParts, elemZero, FQ, LeaveA, resA, resPV, resPVs, PV.fits, wkF, PV.leaf, Nat.reduceBEq, Nat.reduceLT, Nat.reduceLeDiff, Int.reduceLT, Int.reduceLE, Int.reduceToNat, t1, t5, inc_k (show k < 1099511627776 by omega)]
    refine ⟨_, by omega, k + 1, _, _, rfl, by omega, rfl, rfl, ?_, k7⟩
    rw [flat_take hlt, ← List.append_assoc]
    exact e7
  have ek := take_all (vs := gs) (k := k) (by omega)
  rw [ek] at he
  clear ek
  simp only [wkB, wkC, kernP, rd, rds, reduceIte, Nat.reduceEqDiff, Nat.reduceAdd, binop, intOp_mul, unop, shiftOp, strOp, isNil, fillElems, fillParts, elemZero, FQ, LeaveA, resA, resPV, resPVs, PV.fits, wkF, PV.leaf, Nat.reduceBEq, Nat.reduceLT, Nat.reduceLeDiff, Int.reduceLT, Int.reduceLE, Int.reduceToNat, t1, t3, t5, hlg, dec_f hlt, hlr]
  refine app_out hkp he (repL_ints [((rs : List TRef.den).length : Int)]) (by (simp only [rd, upd_app, reduceIte, Nat.reduceEqDiff, t3]); try rfl) (by (simp only [rd, upd_app, reduceIte, Nat.reduceEqDiff]); try rfl) (by simp only [List.length_append, List.length_cons, List.length_nil]; omega) ?_
  intro n5 o5 k8 e8
  simp only [wkB, wkC, kernP, rd, rds, reduceIte, Nat.reduceEqDiff, Nat.reduceAdd, binop, intOp_mul, unop, shiftOp, strOp, isNil, fillElems, fillParts, elemZero, FQ, LeaveA, resA, resPV, resPVs, PV.fits, wkF, PV.leaf, Nat.reduceBEq, Nat.reduceLT, Nat.reduceLeDiff, Int.reduceLT, Int.reduceLE, Int.reduceToNat, t1]
  refine aw_loop (fun m σ => ∃ k es tk', m = rs.length - k ∧ k ≤ rs.length ∧ σ.t 1 = .fpp [.bool b, .sl tkv 5 xv, .sl tkg 1 xg, .sl tkr 6 xr, .sl tka 1 xa, .int .i64 d0, .int .i64 d1, .int .i64 d2] ∧ σ.t 3 = .sl tk' 1 es ∧ σ.t 6 = .int .i64 k ∧ RepL .int es (([if (b : Bool) then 1 else 0, ((vs : List TAbs.den).length : Int)] : List Int) ++ vs.flatMap (Ty.toL 4) ++ [((gs : List (List Int)).length : Int)] ++ gs.flatMap rwInts ++ [((rs : List TRef.den).length : Int)] ++ (rs.take k).flatMap rwRef) ∧ Keeps μ L σ.μ σ.L tk' ∧ σ.df = []) rs.length ⟨0, o5, .tk n5, by omega, by omega, ?_⟩ ?_
  · simp only [wkB, wkC, kernP, rd, rds, reduceIte, Nat.reduceEqDiff, Nat.reduceAdd, binop, intOp_mul, unop, shiftOp, strOp, isNil, fillElems, fillParts, elemZero, FQ, LeaveA, resA, resPV, resPVs, PV.fits, wkF, PV.leaf, Nat.reduceBEq, Nat.reduceLT, Nat.reduceLeDiff, Int.reduceLT, Int.reduceLE, Int.reduceToNat]
    exact ⟨t1, rfl, by simpa using e8, k8⟩
  clear t1 t3 t5 hkp he k8 e8 hlt hk
  rintro m ⟨t, μ4, L4, df⟩ ⟨k, es, tk', rfl, hk, t1, t3, t6, he, hkp, h3⟩
  simp only at t1 t3 t6 hkp h3
  subst h3
  by_cases hlt : k < rs.length
  · have hf := flat_le (f := rwRef) hlt
    have ha := All2.get hxr' (by omega) hlt
    generalize hrk : rs[k] = rk at *
    obtain ⟨s, a⟩ := rk
    obtain ⟨y1, y2, hy, hy1, hy2⟩ := ha
    have hy1' : y1 = [PV.int .i64 s] := hy1
    have hy2l := hy2.length
    rw [hs2] at hy2l
    subst hy1'
    have hat : List.take 5 y2 = y2 := List.take_of_length_le (by omega)
    have hf2 : (rwRef (s, a)).length = (Ty.toL 4 a).length + 1 := by simp [rwRef]
    simp only [wkB, wkC, kernP, rd, rds, reduceIte, Nat.reduceEqDiff, Nat.reduceAdd, binop, intOp_mul, unop, shiftOp, strOp, isNil, fillElems, fillParts, elemZero, FQ, LeaveA, resA, resPV, resPVs, PV.fits, wkF, PV.leaf, Nat.reduceBEq, Nat.reduceLT, Nat.reduceLeDiff, Int.reduceLT, Int.reduceLE, Int.reduceToNat, t1, t3, t6, hlr, dec_t hlt]
    refine aw_drawF (by decide) (fun _ _ _ h => h) ?_
    simp only [wkB, wkC, kernP, rd, rds, reduceIte, Nat.reduceEqDiff, Nat.reduceAdd, binop, intOp_mul, unop, shiftOp, strOp, isNil, fillElems, fillParts, elemZero, FQ, LeaveA, resA, resPV, resPVs, PV.fits, wkF, PV.leaf, Nat.reduceBEq, Nat.reduceLT, Nat.reduceLeDiff, Int.reduceLT, Int.reduceLE, Int.reduceToNat, t1, t3, t6, nn_k, List.getElem?_eq_getElem (show k < xr.length by omega), hy, hy2l, hat]
    refine app_out hkp he (repL_ints [(s : Int)]) (by (simp only [rd, upd_app, reduceIte, Nat.reduceEqDiff, t3]); try rfl) (by (simp only [rd, upd_app, reduceIte, Nat.reduceEqDiff]); try rfl) (by simp only [List.length_append, List.length_cons, List.length_nil]; omega) ?_
    intro n6 o6 k6 e6
    simp only [wkB, wkC, kernP, rd, rds, reduceIte, Nat.reduceEqDiff, Nat.reduceAdd, binop, intOp_mul, unop, shiftOp, strOp, isNil, fillElems, fillParts, elemZero, FQ, LeaveA, resA, resPV, resPVs, PV.fits, wkF, PV.leaf, Nat.reduceBEq, Nat.reduceLT, Nat.reduceLeDiff, Int.reduceLT, Int.reduceLE, Int.reduceToNat]
    refine rabs_ok hy2 _ _ _ _ ?_
    intro tk3 es3 μ4 L4 q3 k7
    simp only [wkB, wkC, kernP, rd, rds, reduceIte, Nat.reduceEqDiff, Nat.reduceAdd, binop, intOp_mul, unop, shiftOp, strOp, isNil, fillElems, fillParts, elemZero, FQ, LeaveA, resA, resPV, resPVs, PV.fits, wkF, PV.leaf, Nat.reduceBEq, Nat.reduceLT, Nat.reduceLeDiff, Int.reduceLT, Int.reduceLE, Int.reduceToNat]
    refine app_out (k6.call k7) e6 q3 (by (simp only [rd, upd_app, reduceIte, Nat.reduceEqDiff]); try rfl) (by (simp only [rd, upd_app, reduceIte, Nat.reduceEqDiff]); try rfl) (by simp only [List.length_append, List.length_cons, List.length_nil]; omega) ?_
    intro n7 o7 k8 e8
    simp only [wkB, wkC, kernP, rd, rds, reduceIte, Nat.reduceEqDiff, Nat.reduceAdd, binop, intOp_mul, unop, shiftOp, strOp, isNil, fillElems, fillParts, elemZero, FQ, LeaveA, resA, resPV, resPVs, PV.fits, wkF, PV.leaf, Nat.reduceBEq, Nat.reduceLT, Nat.reduceLeDiff, Int.reduceLT, Int.reduceLE, Int.reduceToNat, t1, t6, inc_k (show k < 1099511627776 by omega)]
    refine ⟨_, by omega, k + 1, _, _, rfl, by omega, rfl, rfl, ?_, k8⟩
    rw [flat_take hlt, hrk]
    simpa [rwRef] using e8
  have ek := take_all (vs := rs) (k := k) (by omega)
  rw [ek] at he
  clear ek
  simp only [wkB, wkC, kernP, rd, rds, reduceIte, Nat.reduceEqDiff, Nat.reduceAdd, binop, intOp_mul, unop, shiftOp, strOp, isNil, fillElems, fillParts, elemZero, FQ, LeaveA, resA, resPV, resPVs, PV.fits, wkF, PV.leaf, Nat.reduceBEq, Nat.reduceLT, Nat.reduceLeDiff, Int.reduceLT, Int.reduceLE, Int.reduceToNat, t1, t3, t6, hlr, dec_f hlt]
  refine rints_ok hxa' (by omega) _ _ _ _ ?_
  intro tk3 es3 μ4 L4 q3 k6
  simp only [wkB, wkC, kernP, rd, rds, reduceIte, Nat.reduceEqDiff, Nat.reduceAdd, binop, intOp_mul, unop, shiftOp, strOp, isNil, fillElems, fillParts, elemZero, FQ, LeaveA, resA, resPV, resPVs, PV.fits, wkF, PV.leaf, Nat.reduceBEq, Nat.reduceLT, Nat.reduceLeDiff, Int.reduceLT, Int.reduceLE, Int.reduceToNat]
  refine app_out (hkp.call k6) he q3 (by (simp only [rd, upd_app, reduceIte, Nat.reduceEqDiff, t3]); try rfl) (by (simp only [rd, upd_app, reduceIte, Nat.reduceEqDiff]); try rfl) (by simp only [List.length_append, List.length_cons, List.length_nil, rwInts] at hb ⊢; omega) ?_
  intro n7 o7 k8 e8
  simp only [wkB, wkC, kernP, rd, rds, reduceIte, Nat.reduceEqDiff, Nat.reduceAdd, binop, intOp_mul, unop, shiftOp, strOp, isNil, fillElems, fillParts, elemZero, FQ, LeaveA, resA, resPV, resPVs, PV.fits, wkF, PV.leaf, Nat.reduceBEq, Nat.reduceLT, Nat.reduceLeDiff, Int.reduceLT, Int.reduceLE, Int.reduceToNat, t1]
  refine app_out k8 e8 (repL_ints [d0, d1, d2]) (by (simp only [rd, upd_app, reduceIte, Nat.reduceEqDiff]); try rfl) (by (simp only [rd, upd_app, reduceIte, Nat.reduceEqDiff]); try rfl) (by simp only [List.length_append, List.length_cons, List.length_nil, rwInts] at hb ⊢; omega) ?_
  intro n9 o9 k9 e9
  simp only [wkB, wkC, kernP, rd, rds, reduceIte, Nat.reduceEqDiff, Nat.reduceAdd, binop, intOp_mul, unop, shiftOp, strOp, isNil, fillElems, fillParts, elemZero, FQ, LeaveA, resA, resPV, resPVs, PV.fits, wkF, PV.leaf, Nat.reduceBEq, Nat.reduceLT, Nat.reduceLeDiff, Int.reduceLT, Int.reduceLE, Int.reduceToNat]
  exact ⟨_, rfl, hK _ _ _ _ e9 k9⟩

end Go.Bm

/- The words of an entry, as the reference has them; whether entries are the same. -/
namespace Go.Bm
open Go Go.Proofs

def rwEntry : TEntry.den → List Int
  | (n, d, fs, s, f, ps, rs) => rwNeed n ++ [(d : Int), ((fs : List TFact.den).length : Int)] ++ (fs : List TFact.den).flatMap rwFact ++ rwSum s ++ [((f : List (Ty.nums 2).den).length : Int)] ++ (f : List (Ty.nums 2).den).flatMap (Ty.toL 2) ++ rwPairs ps ++ rwInts rs

theorem rwFact_pos : ∀ v : TFact.den, 1 ≤ (rwFact v).length
  | (b, vs, gs, rs, ar, n3) => by simp only [rwFact, List.length_append, List.length_cons]; omega

theorem rwords_ok {cs : List PV} {v : TEntry.den} (hr : Rep TEntry cs v) (hb : (rwEntry v).length < 1099511627776) : GivesW 38 [.agg cs] (rwEntry v) := by
  intro μ L K KP hK
  obtain ⟨nd, d, fs, sm, f, ps, rs⟩ := v
  obtain ⟨c1, r1, rfl, h1, c2, r2, rfl, h2, c3, r3, rfl, ⟨tkf, xf, h3, hxf⟩, c4, r4, rfl, h4, c5, r5, rfl, ⟨tkg, xg, h5, hxg⟩, c6, r6, rfl, ⟨tkp, xp, h6, hxp⟩, ⟨tkr, xr, h7, hxr⟩⟩ := hr
  have h2' : c2 = [PV.int .i64 d] := h2
  have hrw : rwEntry (nd, d, fs, sm, f, ps, rs) = rwNeed nd ++ [(d : Int), ((fs : List TFact.den).length : Int)] ++ (fs : List TFact.den).flatMap rwFact ++ rwSum sm ++ [((f : List (Ty.nums 2).den).length : Int)] ++ (f : List (Ty.nums 2).den).flatMap (Ty.toL 2) ++ rwPairs ps ++ rwInts rs := rfl
  rw [hrw] at hb hK
  have hxf' : RepL TFact xf fs := hxf
  have hxg' : RepL (.nums 2) xg f := hxg
  have hxp' : RepL (.nums 2) xp ps := hxp
  have hxr' : RepL .int xr rs := hxr
  have hlf := All2.length hxf'
  have hlg := All2.length hxg'
  have hlp := All2.length hxp'
  have hlr := All2.length hxr'
  have hs1 : Ty.size .int = 1 := rfl
  have hs2 : Ty.size TFact = 8 := rfl
  have hs3 : Ty.size (.nums 2) = 3 := rfl
  rw [hs2] at h3
  rw [hs3] at h5 h6
  rw [hs1] at h7
  have hln := h1.length
  have hlm := h4.length
  have hs4 : Ty.size TNeed = 6 := rfl
  have hs5 : Ty.size TSum = 11 := rfl
  rw [hs4] at hln
  rw [hs5] at hlm
  match c1, hln, c4, hlm with
  | [p0, p1, p2, p3, p4, p5], _, [s0, s1, s2, s3, s4, s5, s6, s7, s8, s9, s10], _ =>
  subst h2' h3 h5 h6 h7
  have g1 := len_le_flat rwFact_pos fs
  have g2 := len_le_flat (f := Ty.toL 2) (fun v => by rw [toL_length]; omega) f
  have g3 : xp.length < (rwPairs ps).length := by
    have := len_le_flat (f := Ty.toL 2) (fun v => by rw [toL_length]; omega) ps
    simp only [rwPairs, List.length_cons]; omega
  have g4 : xr.length < (rwInts rs).length := by simp only [rwInts, List.length_cons]; omega
  simp only [List.length_append, List.length_cons, List.length_nil] at hb
  refine acall_of_aw mix fn38 (by simp) ?_
  unfold ac38
  have hfit : (PV.agg [p0, p1, p2, p3, p4, p5, .int .i64 d, .sl tkf 8 xf, s0, s1, s2, s3, s4, s5, s6, s7, s8, s9, s10, .sl tkg 3 xg, .sl tkp 3 xp, .sl tkr 1 xr]).fits 22 = true := by
    have l1 := h1.leaves
    have l2 := h4.leaves
    simp only [Leaves, List.mem_cons, List.not_mem_nil, or_false, forall_eq_or_imp, forall_eq] at l1 l2
    simp [PV.fits, PV.flat, l1, l2]
    simp [PV.leaf]
  simp only [wkB, wkC, kernP, rd, rds, reduceIte, Nat.reduceEqDiff, Nat.reduceAdd, binop, intOp_mul, unop, shiftOp, strOp, isNil, fillElems, fillParts, elemZero, FQ, LeaveA, resA, resPV, resPVs, wkF, Nat.reduceBEq, Nat.reduceLT, Nat.reduceLeDiff, Int.reduceLT, Int.reduceLE, Int.reduceToNat, hfit]
  refine aw_drawF (by decide) (fun _ _ _ h => h) ?_
  simp only [wkB, wkC, kernP, rd, rds, reduceIte, Nat.reduceEqDiff, Nat.reduceAdd, binop, intOp_mul, unop, shiftOp, strOp, isNil, fillElems, fillParts, elemZero, FQ, LeaveA, resA, resPV, resPVs, PV.fits, wkF, PV.leaf, Nat.reduceBEq, Nat.reduceLT, Nat.reduceLeDiff, Int.reduceLT, Int.reduceLE, Int.reduceToNat, hlf]
  refine rneed_ok h1 (by omega) _ _ _ _ ?_
  intro tk1 es1 μ1 L1 q1 k1
  simp only [wkB, wkC, kernP, rd, rds, reduceIte, Nat.reduceEqDiff, Nat.reduceAdd, binop, intOp_mul, unop, shiftOp, strOp, isNil, fillElems, fillParts, elemZero, FQ, LeaveA, resA, resPV, resPVs, PV.fits, wkF, PV.leaf, Nat.reduceBEq, Nat.reduceLT, Nat.reduceLeDiff, Int.reduceLT, Int.reduceLE, Int.reduceToNat]
  refine app_out k1 q1 (repL_ints [(d : Int), ((fs : List TFact.den).length : Int)]) (by (simp only [rd, upd_app, reduceIte, Nat.reduceEqDiff]); try rfl) (by (simp only [rd, upd_app, reduceIte, Nat.reduceEqDiff]); try rfl) (by simp only [List.length_append, List.length_cons, List.length_nil]; omega) ?_
  intro n1 o1 k2 e2
  simp only [wkB, wkC, kernP, rd, rds, reduceIte, Nat.reduceEqDiff, Nat.reduceAdd, binop, intOp_mul, unop, shiftOp, strOp, isNil, fillElems, fillParts, elemZero, FQ, LeaveA, resA, resPV, resPVs, PV.fits, wkF, PV.leaf, Nat.reduceBEq, Nat.reduceLT, Nat.reduceLeDiff, Int.reduceLT, Int.reduceLE, Int.reduceToNat]
  refine aw_loop (fun m σ => ∃ k es tk', m = fs.length - k ∧ k ≤ fs.length ∧ σ.t 1 = .fpp [p0, p1, p2, p3, p4, p5, .int .i64 d, .sl tkf 8 xf, s0, s1, s2, s3, s4, s5, s6, s7, s8, s9, s10, .sl tkg 3 xg, .sl tkp 3 xp, .sl tkr 1 xr] ∧ σ.t 3 = .sl tk' 1 es ∧ σ.t 4 = .int .i64 k ∧ RepL .int es (rwNeed nd ++ [(d : Int), ((fs : List TFact.den).length : Int)] ++ (fs.take k).flatMap rwFact) ∧ Keeps μ L σ.μ σ.L tk' ∧ σ.df = []) fs.length ⟨0, o1, .tk n1, by omega, by omega, ?_⟩ ?_
  · simp only [wkB, wkC, kernP, rd, rds, reduceIte, Nat.reduceEqDiff, Nat.reduceAdd, binop, intOp_mul, unop, shiftOp, strOp, isNil, fillElems, fillParts, elemZero, FQ, LeaveA, resA, resPV, resPVs, PV.fits, wkF, PV.leaf, Nat.reduceBEq, Nat.reduceLT, Nat.reduceLeDiff, Int.reduceLT, Int.reduceLE, Int.reduceToNat]
    exact ⟨rfl, by simpa using e2, k2⟩
  rintro m ⟨t, μ3, L3, df⟩ ⟨k, es, tk', rfl, hk, t1, t3, t4, he, hkp, h3⟩
  simp only at t1 t3 t4 hkp h3
  subst h3
  by_cases hlt : k < fs.length
  · have ha := All2.get hxf' (by omega) hlt
    have hal := ha.length
    rw [hs2] at hal
    have hat : List.take 8 xf[k].flat = xf[k].flat := List.take_of_length_le (by omega)
    have hf := flat_le (f := rwFact) hlt
    simp only [wkB, wkC, kernP, rd, rds, reduceIte, Nat.reduceEqDiff, Nat.reduceAdd, binop, intOp_mul, unop, shiftOp, strOp, isNil, fillElems, fillParts, elemZero, FQ, LeaveA, resA, resPV, resPVs, PV.fits, wkF, PV.leaf, Nat.reduceBEq, Nat.reduceLT, Nat.reduceLeDiff, Int.reduceLT, Int.reduceLE, Int.reduceToNat, t1, t3, t4, hlf, dec_t hlt, inc_k (show k < 1099511627776 by omega), nn_k, List.getElem?_eq_getElem (show k < xf.length by omega), hal, hat]
    refine rfact_ok ha (by omega) _ _ _ _ ?_
    intro tk3 es3 μ4 L4 q3 k6
    simp only [wkB, wkC, kernP, rd, rds, reduceIte, Nat.reduceEqDiff, Nat.reduceAdd, binop, intOp_mul, unop, shiftOp, strOp, isNil, fillElems, fillParts, elemZero, FQ, LeaveA, resA, resPV, resPVs, PV.fits, wkF, PV.leaf, Nat.reduceBEq, Nat.reduceLT, Nat.reduceLeDiff, Int.reduceLT, Int.reduceLE, Int.reduceToNat]
    refine app_out (hkp.call k6) he q3 (by (simp only [rd, upd_app, reduceIte, Nat.reduceEqDiff, t3]); try rfl) (by (simp only [rd, upd_app, reduceIte, Nat.reduceEqDiff]); try rfl) (by simp only [List.length_append, List.length_cons, List.length_nil]; omega) ?_
    intro n4 o4 k7 e7
    simp only [wkB, wkC, kernP, rd, rds, reduceIte, Nat.reduceEqDiff, Nat.reduceAdd, binop, intOp_mul, unop, shiftOp, strOp, isNil, fillElems, fillParts, elemZero, FQ, LeaveA, resA, resPV, resPVs, PV.fits, wkF, PV.leaf, Nat.reduceBEq, Nat.reduceLT, Nat.reduceLeDiff, Int.reduceLT, Int.reduceLE, Int.reduceToNat, t1, t4, inc_k (show k < 1099511627776 by omega)]
    refine ⟨_, by omega, k + 1, _, _, rfl, by omega, rfl, rfl, ?_, k7⟩
    rw [flat_take hlt]
    simpa using e7
  have ek := take_all (vs := fs) (k := k) (by omega)
  rw [ek] at he
  clear ek
  simp only [wkB, wkC, kernP, rd, rds, reduceIte, Nat.reduceEqDiff, Nat.reduceAdd, binop, intOp_mul, unop, shiftOp, strOp, isNil, fillElems, fillParts, elemZero, FQ, LeaveA, resA, resPV, resPVs, PV.fits, wkF, PV.leaf, Nat.reduceBEq, Nat.reduceLT, Nat.reduceLeDiff, Int.reduceLT, Int.reduceLE, Int.reduceToNat, t1, t3, t4, hlf, dec_f hlt]
  refine rsum_ok h4 (by omega) _ _ _ _ ?_
  intro tk3 es3 μ4 L4 q3 k6
  simp only [wkB, wkC, kernP, rd, rds, reduceIte, Nat.reduceEqDiff, Nat.reduceAdd, binop, intOp_mul, unop, shiftOp, strOp, isNil, fillElems, fillParts, elemZero, FQ, LeaveA, resA, resPV, resPVs, PV.fits, wkF, PV.leaf, Nat.reduceBEq, Nat.reduceLT, Nat.reduceLeDiff, Int.reduceLT, Int.reduceLE, Int.reduceToNat]
  refine app_out (hkp.call k6) he q3 (by (simp only [rd, upd_app, reduceIte, Nat.reduceEqDiff, t3]); try rfl) (by (simp only [rd, upd_app, reduceIte, Nat.reduceEqDiff]); try rfl) (by simp only [List.length_append, List.length_cons, List.length_nil]; omega) ?_
  intro n4 o4 k7 e7
  simp only [wkB, wkC, kernP, rd, rds, reduceIte, Nat.reduceEqDiff, Nat.reduceAdd, binop, intOp_mul, unop, shiftOp, strOp, isNil, fillElems, fillParts, elemZero, FQ, LeaveA, resA, resPV, resPVs, PV.fits, wkF, PV.leaf, Nat.reduceBEq, Nat.reduceLT, Nat.reduceLeDiff, Int.reduceLT, Int.reduceLE, Int.reduceToNat, t1, hlg]
  refine app_out k7 e7 (repL_ints [((f : List (Ty.nums 2).den).length : Int)]) (by (simp only [rd, upd_app, reduceIte, Nat.reduceEqDiff]); try rfl) (by (simp only [rd, upd_app, reduceIte, Nat.reduceEqDiff]); try rfl) (by simp only [List.length_append, List.length_cons, List.length_nil]; omega) ?_
  intro n5 o5 k8 e8
  simp only [wkB, wkC, kernP, rd, rds, reduceIte, Nat.reduceEqDiff, Nat.reduceAdd, binop, intOp_mul, unop, shiftOp, strOp, isNil, fillElems, fillParts, elemZero, FQ, LeaveA, resA, resPV, resPVs, PV.fits, wkF, PV.leaf, Nat.reduceBEq, Nat.reduceLT, Nat.reduceLeDiff, Int.reduceLT, Int.reduceLE, Int.reduceToNat, t1]
  refine aw_loop (fun m σ => ∃ k es tk', m = f.length - k ∧ k ≤ f.length ∧ σ.t 1 = .fpp [p0, p1, p2, p3, p4, p5, .int .i64 d, .sl tkf 8 xf, s0, s1, s2, s3, s4, s5, s6, s7, s8, s9, s10, .sl tkg 3 xg, .sl tkp 3 xp, .sl tkr 1 xr] ∧ σ.t 3 = .sl tk' 1 es ∧ σ.t 5 = .int .i64 k ∧ RepL .int es (rwNeed nd ++ [(d : Int), ((fs : List TFact.den).length : Int)] ++ (fs : List TFact.den).flatMap rwFact ++ rwSum sm ++ [((f : List (Ty.nums 2).den).length : Int)] ++ (f.take k).flatMap (Ty.toL 2)) ∧ Keeps μ L σ.μ σ.L tk' ∧ σ.df = []) f.length ⟨0, o5, .tk n5, by omega, by omega, ?_⟩ ?_
  · simp only [wkB, wkC, kernP, rd, rds, reduceIte, Nat.reduceEqDiff, Nat.reduceAdd, binop, intOp_mul, unop, shiftOp, strOp, isNil, fillElems, fillParts, elemZero, FQ, LeaveA, resA, resPV, resPVs, PV.fits, wkF, PV.leaf, Nat.reduceBEq, Nat.reduceLT, Nat.reduceLeDiff, Int.reduceLT, Int.reduceLE, Int.reduceToNat]
    exact ⟨t1, rfl, by simpa using e8, k8⟩
  clear t1 t3 t4 hkp he k8 e8 hlt hk k7 e7 k6 q3
  rintro m ⟨t, μ4, L4, df⟩ ⟨k, es, tk', rfl, hk, t1, t3, t5, he, hkp, h3⟩
  simp only at t1 t3 t5 hkp h3
  subst h3
  by_cases hlt : k < f.length
  · have ha := All2.get hxg' (by omega) hlt
    have hf := flat_le (f := Ty.toL 2) hlt
    have hn := rep_nums 2 ha
    have hl2 := toL_length 2 f[k]
    generalize hw2 : Ty.toL 2 f[k] = w2 at *
    match w2, hl2 with
    | [w0, w1, w2], _ =>
      have hn' : xg[k].flat = [.int .i64 w0, .int .i64 w1, .int .i64 w2] := hn
      simp only [wkB, wkC, kernP, rd, rds, reduceIte, Nat.reduceEqDiff, Nat.reduceAdd, binop, intOp_mul, unop, shiftOp, strOp, isNil, fillElems, fillParts, elemZero, FQ, LeaveA, resA, resPV, resPVs, PV.fits, wkF, PV.leaf, Nat.reduceBEq, Nat.reduceLT, Nat.reduceLeDiff, Int.reduceLT, Int.reduceLE, Int.reduceToNat, t1, t3, t5, hlg, dec_t hlt]
      refine aw_draw (by decide) (fun _ _ _ h => h) ?_
      simp only [wkB, wkC, kernP, rd, rds, reduceIte, Nat.reduceEqDiff, Nat.reduceAdd, binop, intOp_mul, unop, shiftOp, strOp, isNil, fillElems, fillParts, elemZero, FQ, LeaveA, resA, resPV, resPVs, PV.fits, wkF, PV.leaf, Nat.reduceBEq, Nat.reduceLT, Nat.reduceLeDiff, Int.reduceLT, Int.reduceLE, Int.reduceToNat, t1, t3, t5, nn_k, List.getElem?_eq_getElem (show k < xg.length by omega), hn']
      refine app_out hkp he (repL_ints [w0, w1, w2]) (by (simp only [rd, upd_app, reduceIte, Nat.reduceEqDiff, t3]); try rfl) (by (simp only [rd, upd_app, reduceIte, Nat.reduceEqDiff]); try rfl) (by simp only [List.length_append, List.length_cons, List.length_nil] at hf ⊢; omega) ?_
      intro n4 o4 k7 e7
      simp only [wkB, wkC, kernP, rd, rds, reduceIte, Nat.reduceEqDiff, Nat.reduceAdd, binop, intOp_mul, unop, shiftOp, strOp, isNil, fillElems, fillParts, elemZero, FQ, LeaveA, resA, resPV, resPVs, PV.fits, wkF, PV.leaf, Nat.reduceBEq, Nat.reduceLT, Nat.reduceLeDiff, Int.reduceLT, Int.reduceLE, Int.reduceToNat, t1, t5, inc_k (show k < 1099511627776 by omega)]
      refine ⟨_, by omega, k + 1, _, _, rfl, by omega, rfl, rfl, ?_, k7⟩
      rw [flat_take hlt, hw2]
      simpa using e7
  have ek := take_all (vs := f) (k := k) (by omega)
  rw [ek] at he
  clear ek
  simp only [wkB, wkC, kernP, rd, rds, reduceIte, Nat.reduceEqDiff, Nat.reduceAdd, binop, intOp_mul, unop, shiftOp, strOp, isNil, fillElems, fillParts, elemZero, FQ, LeaveA, resA, resPV, resPVs, PV.fits, wkF, PV.leaf, Nat.reduceBEq, Nat.reduceLT, Nat.reduceLeDiff, Int.reduceLT, Int.reduceLE, Int.reduceToNat, t1, t3, t5, hlg, dec_f hlt]
  refine rpairs_ok hxp' (by omega) _ _ _ _ ?_
  intro tk3 es3 μ4 L4 q3 k6
  simp only [wkB, wkC, kernP, rd, rds, reduceIte, Nat.reduceEqDiff, Nat.reduceAdd, binop, intOp_mul, unop, shiftOp, strOp, isNil, fillElems, fillParts, elemZero, FQ, LeaveA, resA, resPV, resPVs, PV.fits, wkF, PV.leaf, Nat.reduceBEq, Nat.reduceLT, Nat.reduceLeDiff, Int.reduceLT, Int.reduceLE, Int.reduceToNat]
  refine app_out (hkp.call k6) he q3 (by (simp only [rd, upd_app, reduceIte, Nat.reduceEqDiff, t3]); try rfl) (by (simp only [rd, upd_app, reduceIte, Nat.reduceEqDiff]); try rfl) (by simp only [List.length_append, List.length_cons, List.length_nil]; omega) ?_
  intro n7 o7 k8 e8
  simp only [wkB, wkC, kernP, rd, rds, reduceIte, Nat.reduceEqDiff, Nat.reduceAdd, binop, intOp_mul, unop, shiftOp, strOp, isNil, fillElems, fillParts, elemZero, FQ, LeaveA, resA, resPV, resPVs, PV.fits, wkF, PV.leaf, Nat.reduceBEq, Nat.reduceLT, Nat.reduceLeDiff, Int.reduceLT, Int.reduceLE, Int.reduceToNat, t1]
  refine rints_ok hxr' (by omega) _ _ _ _ ?_
  intro tk4 es4 μ5 L5 q4 k9
  simp only [wkB, wkC, kernP, rd, rds, reduceIte, Nat.reduceEqDiff, Nat.reduceAdd, binop, intOp_mul, unop, shiftOp, strOp, isNil, fillElems, fillParts, elemZero, FQ, LeaveA, resA, resPV, resPVs, PV.fits, wkF, PV.leaf, Nat.reduceBEq, Nat.reduceLT, Nat.reduceLeDiff, Int.reduceLT, Int.reduceLE, Int.reduceToNat]
  refine app_out (k8.call k9) e8 q4 (by (simp only [rd, upd_app, reduceIte, Nat.reduceEqDiff]); try rfl) (by (simp only [rd, upd_app, reduceIte, Nat.reduceEqDiff]); try rfl) (by simp only [List.length_append, List.length_cons, List.length_nil, rwInts] at hb ⊢; omega) ?_
  intro n9 o9 k10 e9
  simp only [wkB, wkC, kernP, rd, rds, reduceIte, Nat.reduceEqDiff, Nat.reduceAdd, binop, intOp_mul, unop, shiftOp, strOp, isNil, fillElems, fillParts, elemZero, FQ, LeaveA, resA, resPV, resPVs, PV.fits, wkF, PV.leaf, Nat.reduceBEq, Nat.reduceLT, Nat.reduceLeDiff, Int.reduceLT, Int.reduceLE, Int.reduceToNat]
  exact ⟨_, rfl, hK _ _ _ _ e9 k10⟩

theorem same_entry {cs ds : List PV} {v : TEntry.den} {μ : Mem} {L : Lv} {K KP : KA} (h1 : Rep TEntry cs v) (h2 : Rep TEntry ds v) (hb : (rwEntry v).length < 1099511627776) (hK : ∀ μ' L', Keeps μ L μ' L' .full → K (.bool true) μ' L') : ACall Tryz.prog 19 [.agg cs, .agg ds] μ L K KP := by
  refine acall_of_aw mix fn19 (by simp) ?_
  unfold ac19
  have hs : Ty.size TEntry = 22 := rfl
  have hl1 := h1.length
  have hl2 := h2.length
  rw [hs] at hl1 hl2
  have f1 : (PV.agg cs).fits 22 = true := by
    have := h1.leaves
    simp only [PV.fits, PV.flat, hl1, beq_self_eq_true, Bool.true_and, List.all_eq_true]; exact this
  have f2 : (PV.agg ds).fits 22 = true := by
    have := h2.leaves
    simp only [PV.fits, PV.flat, hl2, beq_self_eq_true, Bool.true_and, List.all_eq_true]; exact this
  have t1 : List.take 22 cs = cs := List.take_of_length_le (by omega)
  have t2 : List.take 22 ds = ds := List.take_of_length_le (by omega)
  simp only [wkB, wkC, kernP, rd, rds, reduceIte, Nat.reduceEqDiff, Nat.reduceAdd, binop, intOp_mul, unop, shiftOp, strOp, isNil, fillElems, fillParts, elemZero, FQ, LeaveA, resA, resPV, resPVs, wkF, Nat.reduceBEq, Nat.reduceLT, Nat.reduceLeDiff, Int.reduceLT, Int.reduceLE, Int.reduceToNat, f1, f2]
  refine aw_drawF (by decide) (fun _ _ _ h => h) ?_
  simp only [wkB, wkC, kernP, rd, rds, reduceIte, Nat.reduceEqDiff, Nat.reduceAdd, binop, intOp_mul, unop, shiftOp, strOp, isNil, fillElems, fillParts, elemZero, FQ, LeaveA, resA, resPV, resPVs, wkF, Nat.reduceBEq, Nat.reduceLT, Nat.reduceLeDiff, Int.reduceLT, Int.reduceLE, Int.reduceToNat, hl1, hl2, t1, t2]
  refine rwords_ok h1 hb _ _ _ _ ?_
  intro tk1 es1 μ1 L1 q1 k1
  simp only [wkB, wkC, kernP, rd, rds, reduceIte, Nat.reduceEqDiff, Nat.reduceAdd, binop, intOp_mul, unop, shiftOp, strOp, isNil, fillElems, fillParts, elemZero, FQ, LeaveA, resA, resPV, resPVs, wkF, Nat.reduceBEq, Nat.reduceLT, Nat.reduceLeDiff, Int.reduceLT, Int.reduceLE, Int.reduceToNat, t2]
  refine rwords_ok h2 hb _ _ _ _ ?_
  intro tk2 es2 μ2 L2 q2 k2
  simp only [wkB, wkC, kernP, rd, rds, reduceIte, Nat.reduceEqDiff, Nat.reduceAdd, binop, intOp_mul, unop, shiftOp, strOp, isNil, fillElems, fillParts, elemZero, FQ, LeaveA, resA, resPV, resPVs, wkF, Nat.reduceBEq, Nat.reduceLT, Nat.reduceLeDiff, Int.reduceLT, Int.reduceLE, Int.reduceToNat, t2]
  refine same_ints q1 q2 (by have := All2.length q1; omega) ?_
  simp only [wkB, wkC, kernP, rd, rds, reduceIte, Nat.reduceEqDiff, Nat.reduceAdd, binop, intOp_mul, unop, shiftOp, strOp, isNil, fillElems, fillParts, elemZero, FQ, LeaveA, resA, resPV, resPVs, wkF, Nat.reduceBEq, Nat.reduceLT, Nat.reduceLeDiff, Int.reduceLT, Int.reduceLE, Int.reduceToNat, t2]
  exact ⟨_, rfl, hK _ _ ((Keeps.refl.call k1).call k2)⟩

theorem same_entries {tk tk2 : Tok} {xs ys : List PV} {vs : List TEntry.den} {μ : Mem} {L : Lv} {K KP : KA} (h1 : RepL TEntry xs vs) (h2 : RepL TEntry ys vs) (hl : vs.length < 1099511627776) (hb : ∀ v ∈ vs, (rwEntry v).length < 1099511627776) (hK : ∀ μ' L', Keeps μ L μ' L' .full → K (.bool true) μ' L') : ACall Tryz.prog 8 [.sl tk 22 xs, .sl tk2 22 ys] μ L K KP := by
  refine acall_of_aw mix fn8 (by simp) ?_
  unfold ac8
  have hxl := All2.length h1
  have hyl := All2.length h2
  have e0 : (((xs.length : Nat) : Int) != ((ys.length : Nat) : Int)) = false := by simp [hxl, hyl]
  have hs : Ty.size TEntry = 22 := rfl
  simp only [wkB, wkC, kernP, rd, rds, reduceIte, Nat.reduceEqDiff, Nat.reduceAdd, binop, intOp_mul, unop, shiftOp, strOp, isNil, fillElems, fillParts, elemZero, FQ, LeaveA, resA, resPV, resPVs, PV.fits, wkF, PV.leaf, Nat.reduceBEq, Nat.reduceLT, Nat.reduceLeDiff, Int.reduceLT, Int.reduceLE, Int.reduceToNat, e0]
  refine aw_loop (fun m σ => ∃ k, m = xs.length - k ∧ k ≤ xs.length ∧ σ.t 0 = .sl tk 22 xs ∧ σ.t 1 = .sl tk2 22 ys ∧ σ.t 5 = .int .i64 (k : Nat) ∧ Keeps μ L σ.μ σ.L .full ∧ σ.df = []) xs.length ⟨0, by omega, by omega, ?_⟩ ?_
  · simp only [wkB, wkC, kernP, rd, rds, reduceIte, Nat.reduceEqDiff, Nat.reduceAdd, binop, intOp_mul, unop, shiftOp, strOp, isNil, fillElems, fillParts, elemZero, FQ, LeaveA, resA, resPV, resPVs, PV.fits, wkF, PV.leaf, Nat.reduceBEq, Nat.reduceLT, Nat.reduceLeDiff, Int.reduceLT, Int.reduceLE, Int.reduceToNat]
    exact ⟨rfl, .refl⟩
  · rintro m ⟨t, μ', L', df⟩ ⟨k, rfl, hk, t0, t1, t5, hkp, h3⟩
    simp only at t0 t1 t5 hkp h3
    subst h3
    by_cases hlt : k < xs.length
    · have gx := All2.get h1 hlt (by omega)
      have gy := All2.get h2 (k := k) (by omega) (by omega)
      have l1 := gx.length
      have l2 := gy.length
      rw [hs] at l1 l2
      have q1 : List.take 22 xs[k].flat = xs[k].flat := List.take_of_length_le (by omega)
      have q2 : List.take 22 (ys[k]'(by omega)).flat = (ys[k]'(by omega)).flat := List.take_of_length_le (by omega)
      simp only [wkB, wkC, kernP, rd, rds, reduceIte, Nat.reduceEqDiff, Nat.reduceAdd, binop, intOp_mul, unop, shiftOp, strOp, isNil, fillElems, fillParts, elemZero, FQ, LeaveA, resA, resPV, resPVs, PV.fits, wkF, PV.leaf, Nat.reduceBEq, Nat.reduceLT, Nat.reduceLeDiff, Int.reduceLT, Int.reduceLE, Int.reduceToNat, t0, t1, t5, dec_t hlt]
      refine aw_draw (by decide) (fun _ _ _ h => h) ?_
      simp only [wkB, wkC, kernP, rd, rds, reduceIte, Nat.reduceEqDiff, Nat.reduceAdd, binop, intOp_mul, unop, shiftOp, strOp, isNil, fillElems, fillParts, elemZero, FQ, LeaveA, resA, resPV, resPVs, PV.fits, wkF, PV.leaf, Nat.reduceBEq, Nat.reduceLT, Nat.reduceLeDiff, Int.reduceLT, Int.reduceLE, Int.reduceToNat, t0, t1, t5, nn_k, List.getElem?_eq_getElem hlt, List.getElem?_eq_getElem (show k < ys.length by omega), l1, l2, q1, q2]
      refine same_entry gx gy (hb _ (List.getElem_mem _)) ?_
      intro μ2 L2 k2
      simp only [wkB, wkC, kernP, rd, rds, reduceIte, Nat.reduceEqDiff, Nat.reduceAdd, binop, intOp_mul, unop, shiftOp, strOp, isNil, fillElems, fillParts, elemZero, FQ, LeaveA, resA, resPV, resPVs, PV.fits, wkF, PV.leaf, Nat.reduceBEq, Nat.reduceLT, Nat.reduceLeDiff, Int.reduceLT, Int.reduceLE, Int.reduceToNat, t0, t1, t5, inc_k (show k < 1099511627776 by omega)]
      exact ⟨_, by omega, k + 1, rfl, by omega, rfl, hkp.call k2⟩
    · simp only [wkB, wkC, kernP, rd, rds, reduceIte, Nat.reduceEqDiff, Nat.reduceAdd, binop, intOp_mul, unop, shiftOp, strOp, isNil, fillElems, fillParts, elemZero, FQ, LeaveA, resA, resPV, resPVs, PV.fits, wkF, PV.leaf, Nat.reduceBEq, Nat.reduceLT, Nat.reduceLeDiff, Int.reduceLT, Int.reduceLE, Int.reduceToNat, t0, t1, t5, dec_f hlt]
      exact ⟨_, rfl, hK _ _ hkp⟩

end Go.Bm
