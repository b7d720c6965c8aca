/- Walks: bytes, digests, visitors of numbers and lists. -/
import Derived.Test.YtjgoicmdcegmnaaGreatBmD
import Derived.Test.YtjgoicmdcegmnaaGreatProg
import Derived.Test.YtjgoicmdcegmnaaGreatAcA

set_option linter.unusedVariables false
set_option linter.unusedSimpArgs false

/- Walks: the order of operations. -/
namespace Go.Bm
open Go Go.Proofs

theorem mix : Tryz.prog.follows .mixedOrders = true := by rfl

end Go.Bm

/- Walks: bytes and digests. -/
namespace Go.Bm
open Go Go.Proofs



def byteAt (n : Int) (k : Nat) : Int := IntKind.wrap .u8 (n.fdiv (2 ^ (8 * k)))
def leB (n : Int) (k : Nat) : List PV := (List.range k).map fun j => .int .u8 (byteAt n j)

theorem leB_succ (n : Int) (k : Nat) : leB n (k + 1) = leB n k ++ [.int .u8 (byteAt n k)] := by simp [leB, List.range_succ]

theorem put_ok {tk : Tok} {xs : List PV} {n : Int} {μ : Mem} {L : Lv} {K KP : KA} (ht : Liv L tk) (hb : xs.length + 8 ≤ 70368744177664)
    (hK : ∀ tk' L', TkS L tk L' tk' → K (.sl tk' 1 (xs ++ leB n 8)) μ L') : ACall Tryz.prog 16 [.sl tk 1 xs, .int .i64 n] μ L K KP := by
  refine acall_of_aw mix fn16 (by simp) ?_
  unfold ac16
  simp only [wkB, wkC, kernP, rd, rds, reduceIte, Nat.reduceEqDiff, Nat.reduceAdd, binop, intOp_mul, unop, shiftOp, strOp, isNil, fillElems, fillParts, elemZero, FQ, LeaveA, resA, resPV, resPVs, PV.fits, PV.flat, PV.leaf, Nat.reduceBEq, Nat.reduceLT, Nat.reduceLeDiff, Int.reduceLT, Int.reduceLE, Int.reduceToNat]
  refine aw_for 8 (fun k t μ' L' df => ∃ tk', t 0 = .sl tk' 1 (xs ++ leB n k) ∧ t 1 = .int .i64 n ∧ t 6 = .int .i64 k ∧ μ' = μ ∧ df = [] ∧ TkS L tk L' tk') (by decide) ?_ ?_ ?_ ?_ (by decide)
  · rintro k t μ' L' df ⟨tk', h0, h1, h6, rfl, rfl, hs⟩
    exact ⟨h6, rfl⟩
  · exact ⟨tk, by simp only [wkB, wkC, kernP, rd, rds, reduceIte, Nat.reduceEqDiff, Nat.reduceAdd, binop, intOp_mul, unop, shiftOp, strOp, isNil, fillElems, fillParts, elemZero, FQ, LeaveA, resA, resPV, resPVs, PV.fits, PV.flat, PV.leaf, Nat.reduceBEq, Nat.reduceLT, Nat.reduceLeDiff, Int.reduceLT, Int.reduceLE, Int.reduceToNat, leB, List.range_zero], by simp only [wkB, wkC, kernP, rd, rds, reduceIte, Nat.reduceEqDiff, Nat.reduceAdd, binop, intOp_mul, unop, shiftOp, strOp, isNil, fillElems, fillParts, elemZero, FQ, LeaveA, resA, resPV, resPVs, PV.fits, PV.flat, PV.leaf, Nat.reduceBEq, Nat.reduceLT, Nat.reduceLeDiff, Int.reduceLT, Int.reduceLE, Int.reduceToNat], by simp only [wkB, wkC, kernP, rd, rds, reduceIte, Nat.reduceEqDiff, Nat.reduceAdd, binop, intOp_mul, unop, shiftOp, strOp, isNil, fillElems, fillParts, elemZero, FQ, LeaveA, resA, resPV, resPVs, PV.fits, PV.flat, PV.leaf, Nat.reduceBEq, Nat.reduceLT, Nat.reduceLeDiff, Int.reduceLT, Int.reduceLE, Int.reduceToNat]; rfl, rfl, rfl, .refl ht⟩
  · rintro t μ' L' df ⟨tk', h0, h1, h6, rfl, rfl, hs⟩
    simp only [wkB, wkC, kernP, rd, rds, reduceIte, Nat.reduceEqDiff, Nat.reduceAdd, binop, intOp_mul, unop, shiftOp, strOp, isNil, fillElems, fillParts, elemZero, FQ, LeaveA, resA, resPV, resPVs, PV.fits, PV.flat, PV.leaf, Nat.reduceBEq, Nat.reduceLT, Nat.reduceLeDiff, Int.reduceLT, Int.reduceLE, Int.reduceToNat, h0]
    exact ⟨_, rfl, hK _ _ hs⟩
  · rintro k t μ' L' df hk ⟨tk', h0, h1, h6, rfl, rfl, hs⟩
    have e1 : IntKind.wrap .i64 (8 * (k : Int)) = ((8 * k : Nat) : Int) := by rw [IntWalk.i64_in _ (by omega)]; rfl
    have e2 : ¬ ((8 * k : Nat) : Int) < 0 := by omega
    have e3 : min (8 * k) 64 = 8 * k := by omega
    simp only [wkB, wkC, kernP, rd, rds, reduceIte, Nat.reduceEqDiff, Nat.reduceAdd, binop, intOp_mul, unop, shiftOp, strOp, isNil, fillElems, fillParts, elemZero, FQ, LeaveA, resA, resPV, resPVs, PV.fits, PV.flat, PV.leaf, Nat.reduceBEq, Nat.reduceLT, Nat.reduceLeDiff, Int.reduceLT, Int.reduceLE, Int.reduceToNat, h0, h1, h6, e1, e2, e3, IntKind.bits]
    refine app_tok (xs := xs ++ leB n k) (ys := [.int .u8 (byteAt n k)]) (tk := tk') (tk2 := .full) (by simp only [wkB, wkC, kernP, rd, rds, reduceIte, Nat.reduceEqDiff, Nat.reduceAdd, binop, intOp_mul, unop, shiftOp, strOp, isNil, fillElems, fillParts, elemZero, FQ, LeaveA, resA, resPV, resPVs, PV.fits, PV.flat, PV.leaf, Nat.reduceBEq, Nat.reduceLT, Nat.reduceLeDiff, Int.reduceLT, Int.reduceLE, Int.reduceToNat]) (by simp only [wkB, wkC, kernP, rd, rds, reduceIte, Nat.reduceEqDiff, Nat.reduceAdd, binop, intOp_mul, unop, shiftOp, strOp, isNil, fillElems, fillParts, elemZero, FQ, LeaveA, resA, resPV, resPVs, PV.fits, PV.flat, PV.leaf, Nat.reduceBEq, Nat.reduceLT, Nat.reduceLeDiff, Int.reduceLT, Int.reduceLE, Int.reduceToNat, byteAt]) hs.1 (by simp [leB]; omega) ?_
    intro b hb'
    simp only [wkB, wkC, kernP, rd, rds, reduceIte, Nat.reduceEqDiff, Nat.reduceAdd, binop, intOp_mul, unop, shiftOp, strOp, isNil, fillElems, fillParts, elemZero, FQ, LeaveA, resA, resPV, resPVs, PV.fits, PV.flat, PV.leaf, Nat.reduceBEq, Nat.reduceLT, Nat.reduceLeDiff, Int.reduceLT, Int.reduceLE, Int.reduceToNat, h0, h1, h6]
    exact ⟨.tk b, by rw [leB_succ, List.append_assoc], hs.step hb'⟩

end Go.Bm

/- Walks: digests, need, get. -/
namespace Go.Bm
open Go Go.Proofs

theorem need_ok {μ : Mem} {L : Lv} {K KP : KA} (hK : K (.tup []) μ L) : ACall Tryz.prog 67 [.bool true] μ L K KP := by
  refine acall_of_aw mix fn67 (by simp) ?_
  unfold ac67
  simp only [wkB, wkC, kernP, rd, rds, reduceIte, Nat.reduceEqDiff, Nat.reduceAdd, binop, intOp_mul, unop, shiftOp, strOp, isNil, fillElems, fillParts, elemZero, FQ, LeaveA, resA, resPV, resPVs, PV.fits, PV.flat, PV.leaf, Nat.reduceBEq, Nat.reduceLT, Nat.reduceLeDiff, Int.reduceLT, Int.reduceLE, Int.reduceToNat]
  exact ⟨_, rfl, hK⟩

theorem need_no {μ : Mem} {L : Lv} {K KP : KA} (hK : KP (.iface 189 (.agg [])) μ L) : ACall Tryz.prog 67 [.bool false] μ L K KP := by
  refine acall_of_aw mix fn67 (by simp) ?_
  unfold ac67
  simp only [wkB, wkC, kernP, rd, rds, reduceIte, Nat.reduceEqDiff, Nat.reduceAdd, binop, intOp_mul, unop, shiftOp, strOp, isNil, fillElems, fillParts, elemZero, FQ, LeaveA, resA, resPV, resPVs, PV.fits, PV.flat, PV.leaf, Nat.reduceBEq, Nat.reduceLT, Nat.reduceLeDiff, Int.reduceLT, Int.reduceLE, Int.reduceToNat]
  exact hK

noncomputable def mix1 (a b : Int) : Int := mulO .u64 (bitsOp .xor .u64 a b) 11400714819323198485
noncomputable def mix2 (a : Int) : Int := mulO .u64 (bitsOp .xor .u64 a (a.fdiv (2 ^ min 29 IntKind.u64.bits))) 13787848793156543929
noncomputable def mix3 (a : Int) : Int := bitsOp .xor .u64 a (a.fdiv (2 ^ min 32 IntKind.u64.bits))
/-- digest.Step. -/
noncomputable def stepI (a b : Int) : Int := mix3 (mix2 (mix1 a b))

theorem step_ok {a b : Int} {μ : Mem} {L : Lv} {K KP : KA} (hK : K (.int .u64 (stepI a b)) μ L) : ACall Tryz.prog 35 [.int .u64 a, .int .u64 b] μ L K KP := by
  refine acall_of_aw mix fn35 (by simp) ?_
  unfold ac35
  simp only [wkB, wkC, kernP, rd, rds, reduceIte, Nat.reduceEqDiff, Nat.reduceAdd, binop, intOp_mulO, unop, shiftOp, strOp, isNil, fillElems, fillParts, elemZero, FQ, LeaveA, resA, resPV, resPVs, PV.fits, PV.flat, PV.leaf, Nat.reduceBEq, Nat.reduceLT, Nat.reduceLeDiff, Int.reduceLT, Int.reduceLE, Int.reduceToNat]
  exact ⟨_, rfl, hK⟩

/-- digest.Words. -/
noncomputable def wordsI (xs : List Int) : Int := xs.foldl (fun h w => stepI h (IntKind.wrap .u64 w)) (stepI 2611923443488327891 (IntKind.wrap .u64 xs.length))

abbrev ints (xs : List Int) : List PV := xs.map (PV.int .i64)

theorem words_ok {tk : Tok} {xs : List Int} {μ : Mem} {L : Lv} {K KP : KA} (hb : xs.length < 4611686018427387904) (hK : K (.int .u64 (wordsI xs)) μ L) : ACall Tryz.prog 17 [.sl tk 1 (ints xs)] μ L K KP := by
  refine acall_of_aw mix fn17 (by simp) ?_
  unfold ac17
  simp only [wkB, wkC, kernP, rd, rds, reduceIte, Nat.reduceEqDiff, Nat.reduceAdd, binop, intOp_mul, unop, shiftOp, strOp, isNil, fillElems, fillParts, elemZero, FQ, LeaveA, resA, resPV, resPVs, PV.fits, PV.flat, PV.leaf, Nat.reduceBEq, Nat.reduceLT, Nat.reduceLeDiff, Int.reduceLT, Int.reduceLE, Int.reduceToNat, List.length_map]
  refine step_ok ?_
  simp only [wkB, wkC, kernP, rd, rds, reduceIte, Nat.reduceEqDiff, Nat.reduceAdd, binop, intOp_mul, unop, shiftOp, strOp, isNil, fillElems, fillParts, elemZero, FQ, LeaveA, resA, resPV, resPVs, PV.fits, PV.flat, PV.leaf, Nat.reduceBEq, Nat.reduceLT, Nat.reduceLeDiff, Int.reduceLT, Int.reduceLE, Int.reduceToNat, List.length_map]
  refine aw_for xs.length (fun k t μ' L' df => t 3 = .int .u64 ((xs.take k).foldl (fun h w => stepI h (IntKind.wrap .u64 w)) (stepI 2611923443488327891 (IntKind.wrap .u64 xs.length))) ∧ t 10 = .sl tk 1 (ints xs) ∧ t 11 = .int .i64 xs.length ∧ t 12 = .int .i64 k ∧ μ' = μ ∧ L' = L ∧ df = []) hb ?_ ?_ ?_ ?_ (by decide)
  · rintro k t μ' L' df ⟨h3, h10, h11, h12, rfl, rfl, rfl⟩
    exact ⟨h12, h11⟩
  · simp only [wkB, wkC, kernP, rd, rds, reduceIte, Nat.reduceEqDiff, Nat.reduceAdd, binop, intOp_mul, unop, shiftOp, strOp, isNil, fillElems, fillParts, elemZero, FQ, LeaveA, resA, resPV, resPVs, PV.fits, PV.flat, PV.leaf, Nat.reduceBEq, Nat.reduceLT, Nat.reduceLeDiff, Int.reduceLT, Int.reduceLE, Int.reduceToNat, List.foldl_nil]
    rfl
  · rintro t μ' L' df ⟨h3, h10, h11, h12, rfl, rfl, rfl⟩
    simp only [wkB, wkC, kernP, rd, rds, reduceIte, Nat.reduceEqDiff, Nat.reduceAdd, binop, intOp_mul, unop, shiftOp, strOp, isNil, fillElems, fillParts, elemZero, FQ, LeaveA, resA, resPV, resPVs, PV.fits, PV.flat, PV.leaf, Nat.reduceBEq, Nat.reduceLT, Nat.reduceLeDiff, Int.reduceLT, Int.reduceLE, Int.reduceToNat, h3, List.take_length]
    exact ⟨_, rfl, hK⟩
  · rintro k t μ' L' df hk ⟨h3, h10, h11, h12, rfl, rfl, rfl⟩
    have e1 : (0 : Int) ≤ (k : Int) := by omega
    have e2 : (ints xs)[k]? = some (.int .i64 xs[k]) := by simp [hk]
    simp only [wkB, wkC, kernP, rd, rds, reduceIte, Nat.reduceEqDiff, Nat.reduceAdd, binop, intOp_mul, unop, shiftOp, strOp, isNil, fillElems, fillParts, elemZero, FQ, LeaveA, resA, resPV, resPVs, PV.fits, PV.flat, PV.leaf, Nat.reduceBEq, Nat.reduceLT, Nat.reduceLeDiff, Int.reduceLT, Int.reduceLE, Int.reduceToNat, h3, h10, h11, h12, e1, e2]
    refine step_ok ?_
    simp only [wkB, wkC, kernP, rd, rds, reduceIte, Nat.reduceEqDiff, Nat.reduceAdd, binop, intOp_mul, unop, shiftOp, strOp, isNil, fillElems, fillParts, elemZero, FQ, LeaveA, resA, resPV, resPVs, PV.fits, PV.flat, PV.leaf, Nat.reduceBEq, Nat.reduceLT, Nat.reduceLeDiff, Int.reduceLT, Int.reduceLE, Int.reduceToNat, h3, h10, h11, h12]
    rw [List.take_add_one, List.getElem?_eq_getElem hk, Option.toList_some, List.foldl_append]
    rfl

/-- What 'get' has after k bytes. -/
def getR (f : Nat → Int) : Nat → Int
  | 0 => 0
  | k + 1 => bitsOp .or .u64 (getR f k) (IntKind.wrap .u64 (IntKind.wrap .u64 (f k) * 2 ^ (min (8 * k) IntKind.u64.bits)))

theorem get_ok {tk : Tok} {xs : List PV} {f : Nat → Int} {μ : Mem} {L : Lv} {K KP : KA} (hf : ∀ k, k < 8 → xs[k]? = some (.int .u8 (f k))) (hK : K (.int .i64 (IntKind.wrap .i64 (getR f 8))) μ L) : ACall Tryz.prog 81 [.sl tk 1 xs] μ L K KP := by
  refine acall_of_aw mix fn81 (by simp) ?_
  unfold ac81
  simp only [wkB, wkC, kernP, rd, rds, reduceIte, Nat.reduceEqDiff, Nat.reduceAdd, binop, intOp_mul, unop, shiftOp, strOp, isNil, fillElems, fillParts, elemZero, FQ, LeaveA, resA, resPV, resPVs, PV.fits, PV.flat, PV.leaf, Nat.reduceBEq, Nat.reduceLT, Nat.reduceLeDiff, Int.reduceLT, Int.reduceLE, Int.reduceToNat]
  refine aw_for 8 (fun k t μ' L' df => t 3 = .int .u64 (getR f k) ∧ t 0 = .sl tk 1 xs ∧ t 5 = .int .i64 k ∧ μ' = μ ∧ L' = L ∧ df = []) (by decide) ?_ ?_ ?_ ?_ (by decide)
  · rintro k t μ' L' df ⟨h3, h0, h5, rfl, rfl, rfl⟩
    exact ⟨h5, rfl⟩
  · simp only [wkB, wkC, kernP, rd, rds, reduceIte, Nat.reduceEqDiff, Nat.reduceAdd, binop, intOp_mul, unop, shiftOp, strOp, isNil, fillElems, fillParts, elemZero, FQ, LeaveA, resA, resPV, resPVs, PV.fits, PV.flat, PV.leaf, Nat.reduceBEq, Nat.reduceLT, Nat.reduceLeDiff, Int.reduceLT, Int.reduceLE, Int.reduceToNat, getR]
    rfl
  · rintro t μ' L' df ⟨h3, h0, h5, rfl, rfl, rfl⟩
    simp only [wkB, wkC, kernP, rd, rds, reduceIte, Nat.reduceEqDiff, Nat.reduceAdd, binop, intOp_mul, unop, shiftOp, strOp, isNil, fillElems, fillParts, elemZero, FQ, LeaveA, resA, resPV, resPVs, PV.fits, PV.flat, PV.leaf, Nat.reduceBEq, Nat.reduceLT, Nat.reduceLeDiff, Int.reduceLT, Int.reduceLE, Int.reduceToNat, h3]
    exact ⟨_, rfl, hK⟩
  · rintro k t μ' L' df hk ⟨h3, h0, h5, rfl, rfl, rfl⟩
    have e1 : (0 : Int) ≤ (k : Int) := by omega
    have e2 := hf k hk
    have e3 : IntKind.wrap .i64 (8 * (k : Int)) = ((8 * k : Nat) : Int) := by rw [IntWalk.i64_in _ (by omega)]; rfl
    have e4 : ¬ ((8 * k : Nat) : Int) < 0 := by omega
    simp only [wkB, wkC, kernP, rd, rds, reduceIte, Nat.reduceEqDiff, Nat.reduceAdd, binop, intOp_mul, unop, shiftOp, strOp, isNil, fillElems, fillParts, elemZero, FQ, LeaveA, resA, resPV, resPVs, PV.fits, PV.flat, PV.leaf, Nat.reduceBEq, Nat.reduceLT, Nat.reduceLeDiff, Int.reduceLT, Int.reduceLE, Int.reduceToNat, h3, h0, h5, e1, e2, e3, e4]
    rfl

end Go.Bm

/- Visitors: what they do with values. -/
namespace Go.Bm
open Go Go.Proofs

inductive Ty where
  | int | bool | bytes
  | list (t : Ty)
  | pair (a b : Ty)

@[reducible] def Ty.den : Ty → Type
  | .int => Int
  | .bool => Bool
  | .bytes => List Int
  | .list t => List t.den
  | .pair a b => a.den × b.den

def Ty.size : Ty → Nat
  | .pair a b => a.size + b.size
  | _ => 1

def Ty.zero : (T : Ty) → T.den
  | .int => (0 : Int)
  | .bool => false
  | .bytes => ([] : List Int)
  | .list _ => []
  | .pair a b => (a.zero, b.zero)

def Ty.zeroCs : Ty → List PV
  | .int => [.int .i64 0]
  | .bool => [.bool false]
  | .bytes => [.sl .full 1 []]
  | .list t => [.sl .full t.size []]
  | .pair a b => a.zeroCs ++ b.zeroCs

inductive Md where
  | enc | dec
  deriving DecidableEq

def wmax : Nat := 1099511627776

def Md.num : Md → Int → List Int → Option (Int × List Int)
  | .enc, n, ws => if ws.length < wmax then some (n, ws ++ [n]) else none
  | .dec, _, [] => none
  | .dec, _, w :: ws => some (w, ws)

def visitL {α : Type} (f : α → List Int → Option (α × List Int)) : List α → List Int → Option (List α × List Int)
  | [], ws => some ([], ws)
  | x :: xs, ws => match f x ws with
    | none => none
    | some (y, ws) => match visitL f xs ws with
      | none => none
      | some (ys, ws) => some (y :: ys, ws)

/-- How long the list is to be. -/
def sized {α : Type} (m : Md) (z : α) (c : Nat) (xs : List α) (n : Int) (ws : List Int) : Option (List α) :=
  if wmax < xs.length then none else
  if n = xs.length then some xs else
  if m = .dec ∧ 0 ≤ n ∧ n ≤ c * ws.length then some (List.replicate n.toNat z) else none

/-- A number of at most eight bytes, low bytes first. -/
def packR (f : List Int) : Nat → Int
  | 0 => 0
  | k + 1 => bitsOp .or .u64 (packR f k) (IntKind.wrap .u64 (IntKind.wrap .u64 (f.getD k 0) * 2 ^ (min (8 * k) IntKind.u64.bits)))

def unpack (x : Int) (n : Nat) : List Int := (List.range n).map fun k => IntKind.wrap .u8 (x.fdiv (2 ^ (min (8 * k) IntKind.u64.bits)))

/-- Eight bytes, or the last ones. -/
def visitC (m : Md) (c : List Int) (ws : List Int) : Option (List Int × List Int) :=
  match m.num (IntKind.wrap .i64 (packR c c.length)) ws with
  | none => none
  | some (r, ws) => if c.length = 8 ∨ (IntKind.wrap .u64 r).fdiv (2 ^ (min (8 * c.length) IntKind.u64.bits)) = 0 then some (unpack (IntKind.wrap .u64 r) c.length, ws) else none

def chunks8 : Nat → List Int → List (List Int)
  | 0, _ => []
  | _ + 1, [] => []
  | f + 1, x :: xs => (x :: xs).take 8 :: chunks8 f ((x :: xs).drop 8)

def visit (m : Md) : (T : Ty) → T.den → List Int → Option (T.den × List Int)
  | .int, n, ws => m.num n ws
  | .bool, b, ws => match m.num (if b then 1 else 0) ws with
    | none => none
    | some (n, ws) => if n = 0 then some (false, ws) else if n = 1 then some (true, ws) else none
  | .bytes, bs, ws => match m.num (bs.length : Int) ws with
    | none => none
    | some (n, ws) => match sized m (0 : Int) 8 bs n ws with
      | none => none
      | some ys => match visitL (visitC m) (chunks8 ys.length ys) ws with
        | none => none
        | some (zs, ws) => some (zs.flatten, ws)
  | .list t, xs, ws => match m.num (xs.length : Int) ws with
    | none => none
    | some (n, ws) => match sized m t.zero 1 xs n ws with
      | none => none
      | some ys => visitL (visit m t) ys ws
  | .pair a b, (x, y), ws => match visit m a x ws with
    | none => none
    | some (x', ws) => match visit m b y ws with
      | none => none
      | some (y', ws) => some ((x', y'), ws)

/-- Elements and values, side by side. -/
def All2 {α β : Type} (R : α → β → Prop) : List α → List β → Prop
  | [], [] => True
  | x :: xs, y :: ys => R x y ∧ All2 R xs ys
  | _, _ => False

def Rep : (T : Ty) → List PV → T.den → Prop
  | .int, cs, n => cs = [.int .i64 n]
  | .bool, cs, b => cs = [.bool b]
  | .bytes, cs, l => ∃ tk, cs = [.sl tk 1 (l.map (PV.int .u8))]
  | .list t, cs, vs => ∃ tk xs, cs = [.sl tk t.size xs] ∧ All2 (fun (x : PV) v => Rep t x.flat v) xs vs
  | .pair a b, cs, (x, y) => ∃ c1 c2, cs = c1 ++ c2 ∧ Rep a c1 x ∧ Rep b c2 y

theorem Rep.length : ∀ {T : Ty} {cs : List PV} {v : T.den}, Rep T cs v → cs.length = T.size
  | .int, _, _, h => by cases h; rfl
  | .bool, _, _, h => by cases h; rfl
  | .bytes, _, _, h => by obtain ⟨tk, rfl⟩ := h; rfl
  | .list t, _, _, h => by obtain ⟨tk, xs, rfl, _⟩ := h; rfl
  | .pair a b, _, (x, y), h => by
    obtain ⟨c1, c2, rfl, h1, h2⟩ := h
    rw [List.length_append, h1.length, h2.length]; rfl

theorem Rep.leaves : ∀ {T : Ty} {cs : List PV} {v : T.den}, Rep T cs v → Leaves cs
  | .int, _, _, h => by cases h; intro y hy; simp at hy; subst hy; rfl
  | .bool, _, _, h => by cases h; intro y hy; simp at hy; subst hy; rfl
  | .bytes, _, _, h => by obtain ⟨tk, rfl⟩ := h; intro y hy; simp at hy; subst hy; rfl
  | .list t, _, _, h => by obtain ⟨tk, xs, rfl, _⟩ := h; intro y hy; simp at hy; subst hy; rfl
  | .pair a b, _, (x, y), h => by
    obtain ⟨c1, c2, rfl, h1, h2⟩ := h
    intro y hy
    rcases List.mem_append.1 hy with hy | hy
    · exact h1.leaves y hy
    · exact h2.leaves y hy

theorem Rep.zero : ∀ (T : Ty), Rep T T.zeroCs T.zero
  | .int => rfl
  | .bool => rfl
  | .bytes => ⟨.full, rfl⟩
  | .list t => ⟨.full, [], rfl, trivial⟩
  | .pair a b => ⟨_, _, rfl, .zero a, .zero b⟩

theorem All2.length {α β : Type} {R : α → β → Prop} : ∀ {xs : List α} {ys : List β}, All2 R xs ys → xs.length = ys.length
  | [], [], _ => rfl
  | _ :: _, _ :: _, h => by simp [All2.length h.2]
  | [], _ :: _, h => h.elim
  | _ :: _, [], h => h.elim

/-! ### The words -/

/-- The visitor's closures. -/
def vis : Md → Nat → List PV
  | .enc, k0 => [.fn 14 [] [.ptr k0 0], .nilf]
  | .dec, k0 => [.fn 83 [] [.ptr k0 0], .fn 82 [] [.ptr k0 0]]

def WS (k0 : Nat) (tk : Tok) (ws : List Int) (μ : Mem) : Prop := μ k0 = some (.cells [.sl tk 1 (ints ws)])

/-- The words are held. -/
def VS (m : Md) (k0 : Nat) (ws : List Int) (μ : Mem) (L : Lv) : Prop := ws.length ≤ wmax ∧ ∃ tk, WS k0 tk ws μ ∧ (m = .enc → Liv L tk)

/-- The words turn, and the objects in E; nothing else does. -/
structure VStep (m : Md) (k0 : Nat) (E : Nat → Prop) (ws ws' : List Int) (μ : Mem) (L : Lv) (μ' : Mem) (L' : Lv) : Prop where
  st : ∃ tk tk', WS k0 tk ws μ ∧ WS k0 tk' ws' μ' ∧ (m = .enc → TkS L tk L' tk') ∧ (m = .dec → L' = L)
  len : ws'.length ≤ wmax
  fr : ∀ j, j ≠ k0 → ¬ E j → μ j ≠ none → μ' j = μ j

theorem VStep.refl {m : Md} {k0 : Nat} {E : Nat → Prop} {ws : List Int} {μ : Mem} {L : Lv} (h : VS m k0 ws μ L) : VStep m k0 E ws ws μ L μ L := by
  obtain ⟨h1, tk, h2, h3⟩ := h
  exact ⟨⟨tk, tk, h2, h2, fun e => .refl (h3 e), fun _ => rfl⟩, h1, fun _ _ _ _ => rfl⟩

theorem VStep.vs {m : Md} {k0 : Nat} {E : Nat → Prop} {ws ws' : List Int} {μ μ' : Mem} {L L' : Lv} (h : VStep m k0 E ws ws' μ L μ' L') : VS m k0 ws' μ' L' := by
  obtain ⟨tk, tk', h1, h2, h3, h4⟩ := h.st
  exact ⟨h.len, tk', h2, fun e => (h3 e).1⟩

theorem VStep.trans {m : Md} {k0 : Nat} {E : Nat → Prop} {ws ws' ws'' : List Int} {μ μ' μ'' : Mem} {L L' L'' : Lv} (h : VStep m k0 E ws ws' μ L μ' L') (h' : VStep m k0 E ws' ws'' μ' L' μ'' L'') : VStep m k0 E ws ws'' μ L μ'' L'' := by
  obtain ⟨tk, tk', h1, h2, h3, h4⟩ := h.st
  obtain ⟨tk2, tk3, g1, g2, g3, g4⟩ := h'.st
  have e : tk2 = tk' := by unfold WS at g1 h2; rw [g1] at h2; simp at h2; exact h2
  subst e
  refine ⟨⟨tk, tk3, h1, g2, fun e => (h3 e).trans (g3 e), fun e => (g4 e).trans (h4 e)⟩, h'.len, fun j q1 q2 q3 => ?_⟩
  have := h.fr j q1 q2 q3
  rw [h'.fr j q1 q2 (by rw [this]; exact q3), this]

theorem VStep.weak {m : Md} {k0 : Nat} {E E' : Nat → Prop} {ws ws' : List Int} {μ μ' : Mem} {L L' : Lv} (h : VStep m k0 E ws ws' μ L μ' L') (he : ∀ j, E j → E' j) : VStep m k0 E' ws ws' μ L μ' L' :=
  ⟨h.st, h.len, fun j q1 q2 q3 => h.fr j q1 (fun hh => q2 (he j hh)) q3⟩

end Go.Bm

/- Visitors: words written and read. -/
namespace Go.Bm
open Go Go.Proofs

def numF : Md → Nat → PV
  | .enc, k0 => .fn 14 [] [.ptr k0 0]
  | .dec, k0 => .fn 83 [] [.ptr k0 0]

theorem ints_length {xs : List Int} : (ints xs).length = xs.length := by simp

theorem num_ok {m : Md} {k0 : Nat} {n r : Int} {ws ws' : List Int} {μ : Mem} {L : Lv} {K KP : KA} (h : VS m k0 ws μ L) (hn : m.num n ws = some (r, ws'))
    (hK : ∀ μ' L', VStep m k0 (fun _ => False) ws ws' μ L μ' L' → K (.int .i64 r) μ' L') : callA Tryz.prog (numF m k0) [.int .i64 n] μ L K KP := by
  obtain ⟨hlen, tk, hw, hl⟩ := h
  have hw' : μ k0 = some (.cells [.sl tk 1 (ints ws)]) := hw
  cases m with
  | enc =>
    simp only [Md.num] at hn
    split at hn
    · rename_i hlt
      simp only [Option.some.injEq, Prod.mk.injEq] at hn
      obtain ⟨rfl, rfl⟩ := hn
      refine acall_of_aw mix fn14 (by simp) ?_
      unfold ac14
      simp only [wkB, wkC, kernP, rd, rds, reduceIte, Nat.reduceEqDiff, Nat.reduceAdd, binop, intOp_mul, unop, shiftOp, strOp, isNil, fillElems, fillParts, elemZero, FQ, LeaveA, resA, resPV, resPVs, PV.fits, PV.flat, PV.leaf, Nat.reduceBEq, Nat.reduceLT, Nat.reduceLeDiff, Int.reduceLT, Int.reduceLE, Int.reduceToNat, hw']
      refine app_tok (xs := ints ws) (ys := [.int .i64 n]) (tk := tk) (tk2 := .full) (by simp only [wkB, wkC, kernP, rd, rds, reduceIte, Nat.reduceEqDiff, Nat.reduceAdd, binop, intOp_mul, unop, shiftOp, strOp, isNil, fillElems, fillParts, elemZero, FQ, LeaveA, resA, resPV, resPVs, PV.fits, PV.flat, PV.leaf, Nat.reduceBEq, Nat.reduceLT, Nat.reduceLeDiff, Int.reduceLT, Int.reduceLE, Int.reduceToNat]) (by simp only [wkB, wkC, kernP, rd, rds, reduceIte, Nat.reduceEqDiff, Nat.reduceAdd, binop, intOp_mul, unop, shiftOp, strOp, isNil, fillElems, fillParts, elemZero, FQ, LeaveA, resA, resPV, resPVs, PV.fits, PV.flat, PV.leaf, Nat.reduceBEq, Nat.reduceLT, Nat.reduceLeDiff, Int.reduceLT, Int.reduceLE, Int.reduceToNat]) (hl rfl) (by simp [wmax] at hlt ⊢; omega) ?_
      intro b hb
      simp only [wkB, wkC, kernP, rd, rds, reduceIte, Nat.reduceEqDiff, Nat.reduceAdd, binop, intOp_mul, unop, shiftOp, strOp, isNil, fillElems, fillParts, elemZero, FQ, LeaveA, resA, resPV, resPVs, PV.fits, PV.flat, PV.leaf, Nat.reduceBEq, Nat.reduceLT, Nat.reduceLeDiff, Int.reduceLT, Int.reduceLE, Int.reduceToNat, hw']
      refine ⟨_, rfl, hK _ _ ⟨⟨tk, .tk b, hw, ?_, fun _ => (TkS.refl (hl rfl)).step hb, fun e => (by cases e)⟩, by simp; omega, fun j q1 _ _ => by simp [Mem.set, q1]⟩⟩
      simp [WS, Mem.set, spl, ints]
    · cases hn
  | dec =>
    cases ws with
    | nil => simp [Md.num] at hn
    | cons w ws =>
      simp only [Md.num, Option.some.injEq, Prod.mk.injEq] at hn
      obtain ⟨rfl, rfl⟩ := hn
      refine acall_of_aw mix fn83 (by simp) ?_
      unfold ac83
      have e1 : decide (((ws.length + 1 : Nat) : Int) > 0) = true := by simp
      have e2 : ((1 : Int) ≤ ((ws.length + 1 : Nat) : Int)) := by omega
      have e3 : (0 : Int) ≤ 1 := by decide
      simp only [wkB, wkC, kernP, rd, rds, reduceIte, Nat.reduceEqDiff, Nat.reduceAdd, binop, intOp_mul, unop, shiftOp, strOp, isNil, fillElems, fillParts, elemZero, FQ, LeaveA, resA, resPV, resPVs, PV.fits, PV.flat, PV.leaf, Nat.reduceBEq, Nat.reduceLT, Nat.reduceLeDiff, Int.reduceLT, Int.reduceLE, Int.reduceToNat, hw', ints_length, List.length_map, e1]
      refine need_ok ?_
      simp only [wkB, wkC, kernP, rd, rds, reduceIte, Nat.reduceEqDiff, Nat.reduceAdd, binop, intOp_mul, unop, shiftOp, strOp, isNil, fillElems, fillParts, elemZero, FQ, LeaveA, resA, resPV, resPVs, PV.fits, PV.flat, PV.leaf, Nat.reduceBEq, Nat.reduceLT, Nat.reduceLeDiff, Int.reduceLT, Int.reduceLE, Int.reduceToNat, hw', boundsOf, hiOf, maxOk, Option.isSome_none, ints_length, List.length_map, e2, e3, Int.le_refl, Option.map_some, Int.toNat_one, List.take_length]
      have e4 : List.take ws.length (List.map (PV.int .i64) ws) = ints ws := List.take_of_length_le (by simp)
      rw [e4]
      refine ⟨_, rfl, hK _ _ ⟨⟨tk, cutTok tk (ws.length + 1) (ws.length + 1) false, hw, ?_, fun e => (by cases e), fun _ => rfl⟩, by simp at hlen; omega, fun j q1 _ _ => by simp [Mem.set, q1]⟩⟩
      simp [WS, Mem.set, spl, ints]

theorem limit_ok {k0 : Nat} {ws : List Int} {μ : Mem} {L : Lv} {K KP : KA} (h : VS .dec k0 ws μ L) (hK : K (.int .i64 (ws.length : Nat)) μ L) : ACall Tryz.prog 82 [.ptr k0 0] μ L K KP := by
  obtain ⟨hlen, tk, hw, hl⟩ := h
  have hw' : μ k0 = some (.cells [.sl tk 1 (ints ws)]) := hw
  refine acall_of_aw mix fn82 (by simp) ?_
  unfold ac82
  simp only [wkB, wkC, kernP, rd, rds, reduceIte, Nat.reduceEqDiff, Nat.reduceAdd, binop, intOp_mul, unop, shiftOp, strOp, isNil, fillElems, fillParts, elemZero, FQ, LeaveA, resA, resPV, resPVs, PV.fits, PV.flat, PV.leaf, Nat.reduceBEq, Nat.reduceLT, Nat.reduceLeDiff, Int.reduceLT, Int.reduceLE, Int.reduceToNat, hw', ints_length, List.length_map]
  exact ⟨_, rfl, hK⟩

theorem vis_num (m : Md) (k0 : Nat) : (vis m k0)[0]? = some (numF m k0) := by cases m <;> rfl
theorem vis_len (m : Md) (k0 : Nat) : (vis m k0).length = 2 := by cases m <;> rfl
theorem vis_fits (m : Md) (k0 : Nat) : (PV.agg (vis m k0)).fits 2 = true := by cases m <;> rfl

end Go.Bm

/- Visitors: numbers. -/
namespace Go.Bm
open Go Go.Proofs

theorem spl_mid {A c B d : List PV} {n : Nat} (hn : n = c.length) : spl (A ++ c ++ B) A.length n d = A ++ d ++ B := by
  subst hn
  unfold spl
  congr 1
  · congr 1
    rw [List.append_assoc, List.take_left']
    rfl
  · rw [List.drop_left']
    simp

theorem spl_mid' {A c B d cs : List PV} {n off : Nat} (h : cs = A ++ c ++ B) (ho : A.length = off) (hn : n = c.length) : spl cs off n d = A ++ d ++ B := by
  subst h; subst ho; exact spl_mid hn

theorem get_mid {A B cs : List PV} {x : PV} {off : Nat} (h : cs = A ++ [x] ++ B) (ho : A.length = off) : cs[off]? = some x := by
  subst h; subst ho
  rw [List.append_assoc, List.getElem?_append_right (Nat.le_refl _)]
  simp

theorem VStep.box {m : Md} {k0 b : Nat} {E : Nat → Prop} {ws ws' : List Int} {μ μ' : Mem} {L L' : Lv} {o : AObj} (h : VStep m k0 E ws ws' (μ.set b o) L μ' L') (hb : Fresh μ L b) (hk : μ k0 ≠ none) : VStep m k0 E ws ws' μ L μ' L' := by
  have hne : k0 ≠ b := fun e => hk (e ▸ hb.1)
  obtain ⟨tk, tk', h1, h2, h3, h4⟩ := h.st
  refine ⟨⟨tk, tk', by unfold WS at h1 ⊢; simpa [Mem.set, hne] using h1, h2, h3, h4⟩, h.len, fun j q1 q2 q3 => ?_⟩
  have hj : j ≠ b := fun e => q3 (e ▸ hb.1)
  rw [h.fr j q1 q2 (by simpa [Mem.set, hj] using q3)]
  simp [Mem.set, hj]

theorem VS.set {m : Md} {k0 b : Nat} {ws : List Int} {μ : Mem} {L : Lv} {o : AObj} (h : VS m k0 ws μ L) (hb : b ≠ k0) : VS m k0 ws (μ.set b o) L := by
  obtain ⟨h1, tk, h2, h3⟩ := h
  have hb' : k0 ≠ b := fun e => hb e.symm
  exact ⟨h1, tk, by unfold WS at h2 ⊢; simpa [Mem.set, hb'] using h2, h3⟩

theorem VS.ne {m : Md} {k0 : Nat} {ws : List Int} {μ : Mem} {L : Lv} (h : VS m k0 ws μ L) : μ k0 ≠ none := by
  obtain ⟨h1, tk, h2, h3⟩ := h
  unfold WS at h2; rw [h2]; simp

/-- An object in E turns. -/
theorem VStep.set {m : Md} {k0 i : Nat} {E : Nat → Prop} {ws ws' : List Int} {μ μ' : Mem} {L L' : Lv} {o : AObj} (h : VStep m k0 E ws ws' μ L μ' L') (hi : i ≠ k0) (he : E i) : VStep m k0 E ws ws' μ L (μ'.set i o) L' := by
  obtain ⟨tk, tk', h1, h2, h3, h4⟩ := h.st
  have hi' : k0 ≠ i := fun e => hi e.symm
  refine ⟨⟨tk, tk', h1, by unfold WS at h2 ⊢; simpa [Mem.set, hi'] using h2, h3, h4⟩, h.len, fun j q1 q2 q3 => ?_⟩
  have hj : j ≠ i := fun e => q2 (e ▸ he)
  simp [Mem.set, hj, h.fr j q1 q2 q3]

theorem numbers_ok {m : Md} {k0 i off : Nat} {A B : List PV} {tk : Tok} {xs ys ws ws' : List Int} {μ : Mem} {L : Lv} {K KP : KA} (hi : i ≠ k0) (hc : μ i = some (.cells (A ++ ints xs ++ B))) (ho : A.length = off) (hb : xs.length < 4611686018427387904)
    (h : VS m k0 ws μ L) (hv : visitL m.num xs ws = some (ys, ws'))
    (hK : ∀ μ' L', μ' i = some (.cells (A ++ ints ys ++ B)) → VStep m k0 (· = i) ws ws' μ L μ' L' → K (.tup []) μ' L') :
    ACall Tryz.prog 27 [.agg (vis m k0), .sl tk 1 ((List.range xs.length).map fun j => .ptr i (off + j))] μ L K KP := by
  refine acall_of_aw mix fn27 (by simp) ?_
  unfold ac27
  have hf := vis_fits m k0
  simp only [PV.fits, PV.flat] at hf
  simp only [wkB, wkC, kernP, rd, rds, reduceIte, Nat.reduceEqDiff, Nat.reduceAdd, binop, intOp_mul, unop, shiftOp, strOp, isNil, fillElems, fillParts, elemZero, FQ, LeaveA, resA, resPV, resPVs, PV.fits, PV.flat, PV.leaf, Nat.reduceBEq, Nat.reduceLT, Nat.reduceLeDiff, Int.reduceLT, Int.reduceLE, Int.reduceToNat, hf]
  intro b hbf
  have hbi : i ≠ b := fun e => by rw [e, hbf.1] at hc; cases hc
  have hbk : b ≠ k0 := fun e => h.ne (e ▸ hbf.1)
  simp only [wkB, wkC, kernP, rd, rds, reduceIte, Nat.reduceEqDiff, Nat.reduceAdd, binop, intOp_mul, unop, shiftOp, strOp, isNil, fillElems, fillParts, elemZero, FQ, LeaveA, resA, resPV, resPVs, PV.fits, PV.flat, PV.leaf, Nat.reduceBEq, Nat.reduceLT, Nat.reduceLeDiff, Int.reduceLT, Int.reduceLE, Int.reduceToNat, List.length_map, List.length_range]
  refine aw_for xs.length (fun k t μ' L' df => ∃ ys1 ys2 ws1, ys = ys1 ++ ys2 ∧ ys1.length = k ∧ visitL m.num (xs.drop k) ws1 = some (ys2, ws') ∧ μ' i = some (.cells (A ++ ints ys1 ++ ints (xs.drop k) ++ B)) ∧
    VStep m k0 (· = i) ws ws1 (μ.set b (.cells (vis m k0))) L μ' L' ∧ μ' b = some (.cells (vis m k0)) ∧ t 2 = .ptr b 0 ∧ t 6 = .sl tk 1 ((List.range xs.length).map fun j => .ptr i (off + j)) ∧ t 7 = .int .i64 xs.length ∧ t 8 = .int .i64 k ∧ df = []) hb ?_ ?_ ?_ ?_ (by decide)
  · rintro k t μ' L' df ⟨ys1, ys2, ws1, h1, h2, h3, h4, h5, h6, t2, t6, t7, t8, rfl⟩
    exact ⟨t8, t7⟩
  · refine ⟨[], ys, ws, rfl, rfl, by simpa using hv, by simp [Mem.set, hbi, hc], .refl (h.set hbk), by simp [Mem.set], ?_⟩
    simp only [wkB, wkC, kernP, rd, rds, reduceIte, Nat.reduceEqDiff, Nat.reduceAdd, binop, intOp_mul, unop, shiftOp, strOp, isNil, fillElems, fillParts, elemZero, FQ, LeaveA, resA, resPV, resPVs, PV.fits, PV.flat, PV.leaf, Nat.reduceBEq, Nat.reduceLT, Nat.reduceLeDiff, Int.reduceLT, Int.reduceLE, Int.reduceToNat]
    rfl
  · rintro t μ' L' df ⟨ys1, ys2, ws1, h1, h2, h3, h4, h5, h6, t2, t6, t7, t8, rfl⟩
    rw [List.drop_length] at h3 h4
    simp only [visitL, Option.some.injEq, Prod.mk.injEq] at h3
    obtain ⟨rfl, rfl⟩ := h3
    simp only [wkB, wkC, kernP, rd, rds, reduceIte, Nat.reduceEqDiff, Nat.reduceAdd, binop, intOp_mul, unop, shiftOp, strOp, isNil, fillElems, fillParts, elemZero, FQ, LeaveA, resA, resPV, resPVs, PV.fits, PV.flat, PV.leaf, Nat.reduceBEq, Nat.reduceLT, Nat.reduceLeDiff, Int.reduceLT, Int.reduceLE, Int.reduceToNat]
    refine ⟨_, rfl, hK _ _ ?_ (h5.box hbf h.ne)⟩
    rw [h4, h1]; simp
  · rintro k t μ' L' df hk ⟨ys1, ys2, ws1, h1, h2, h3, h4, h5, h6, t2, t6, t7, t8, rfl⟩
    have e1 : (0 : Int) ≤ (k : Int) := by omega
    have e2 : ((List.range xs.length).map fun j => PV.ptr i (off + j))[k]? = some (.ptr i (off + k)) := by simp [hk]
    have e3 := vis_num m k0
    rw [List.drop_eq_getElem_cons hk] at h3 h4
    simp only [visitL] at h3
    split at h3
    · cases h3
    · rename_i y ws2 hy
      split at h3
      · cases h3
      · rename_i ys3 ws3 hys
        simp only [Option.some.injEq, Prod.mk.injEq] at h3
        obtain ⟨rfl, rfl⟩ := h3
        have hAl : (A ++ ints ys1).length = off + k := by simp [ho, h2]
        generalize hC : A ++ ints ys1 ++ ints (xs[k] :: xs.drop (k + 1)) ++ B = C at h4
        have hcs : C = (A ++ ints ys1) ++ [.int .i64 xs[k]] ++ (ints (xs.drop (k + 1)) ++ B) := by rw [← hC]; simp only [ints, List.map_cons, List.append_assoc, List.cons_append, List.nil_append]
        have e4 : C[off + k]? = some (.int .i64 xs[k]) := get_mid hcs hAl
        have e5 : off + k + 1 ≤ C.length := by rw [hcs, List.length_append, List.length_append, hAl]; simp
        simp only [wkB, wkC, kernP, rd, rds, reduceIte, Nat.reduceEqDiff, Nat.reduceAdd, binop, intOp_mul, unop, shiftOp, strOp, isNil, fillElems, fillParts, elemZero, FQ, LeaveA, resA, resPV, resPVs, PV.fits, PV.flat, PV.leaf, Nat.reduceBEq, Nat.reduceLT, Nat.reduceLeDiff, Int.reduceLT, Int.reduceLE, Int.reduceToNat, t2, t6, t7, t8, e1, e2]
        refine aw_draw (by decide) (fun _ _ _ h => h) ?_
        simp only [wkB, wkC, kernP, rd, rds, reduceIte, Nat.reduceEqDiff, Nat.reduceAdd, binop, intOp_mul, unop, shiftOp, strOp, isNil, fillElems, fillParts, elemZero, FQ, LeaveA, resA, resPV, resPVs, PV.fits, PV.flat, PV.leaf, Nat.reduceBEq, Nat.reduceLT, Nat.reduceLeDiff, Int.reduceLT, Int.reduceLE, Int.reduceToNat, t2, t6, t7, t8, h6, e3, h4, e4]
        refine num_ok h5.vs hy ?_
        intro μ2 L2 hs
        have g4 : μ2 i = some (.cells C) := by rw [hs.fr i hi (fun h => h) (by rw [h4]; simp), h4]
        have g6 : μ2 b = some (.cells (vis m k0)) := by rw [hs.fr b hbk (fun h => h) (by rw [h6]; simp), h6]
        simp only [wkB, wkC, kernP, rd, rds, reduceIte, Nat.reduceEqDiff, Nat.reduceAdd, binop, intOp_mul, unop, shiftOp, strOp, isNil, fillElems, fillParts, elemZero, FQ, LeaveA, resA, resPV, resPVs, PV.fits, PV.flat, PV.leaf, Nat.reduceBEq, Nat.reduceLT, Nat.reduceLeDiff, Int.reduceLT, Int.reduceLE, Int.reduceToNat, t2, t6, t7, t8, g4, e5]
        refine ⟨ys1 ++ [y], ys3, ws2, by rw [h1]; simp, by simp [h2], hys, ?_, ?_, ?_⟩
        · rw [spl_mid' hcs hAl (by simp)]; simp only [ints, List.map_append, List.map_cons, List.map_nil, List.append_assoc]
        · exact (h5.trans (hs.weak (fun _ h => h.elim))).set hi rfl
        · simp [hbi.symm, g6]

end Go.Bm

/- Visitors: slices.Clone. -/
namespace Go.Bm
open Go Go.Proofs

theorem FnIs.of_erase {P : Program} {f : FuncId} {nt : Nat} {ac ac' : ACode} {rs : List ResultVar} (h : FnIs P f nt ac rs) (e : ac'.erase = ac.erase) : FnIs P f nt ac' rs := by
  obtain ⟨fn, c, h1, h2, h3, h4, h5, h6⟩ := h.ex
  exact ⟨fn, c, h1, h2, h3, by rw [e]; exact h4, h5, h6⟩

theorem app_obj {t : Regs} {μ : Mem} {L : Lv} {K : KA} {sz bytes : Nat} {x y : AX} {tk2 : Tok} {xs ys : List PV} (hx : rd t x = .sl .full sz xs) (hy : rd t y = .sl tk2 sz ys) (h0 : xs = [] ∨ ys ≠ []) (hb : (xs.length + ys.length) * bytes ≤ 140737488355328 ∧ xs.length + ys.length ≤ 140737488355328)
    (hK : ∀ i, Fresh μ L i → K (.slv i 0 (xs.length + ys.length) sz) (μ.set i (.cells (flats (xs ++ ys)))) L) : opM (.append sz bytes x y) t μ L K := by
  simp only [opM, hx, hy]
  exact ⟨ys, ⟨rfl, rfl⟩, trivial, hb, .inr ⟨trivial, h0, hK⟩⟩

theorem gho_intro {σ : St} {Q : St → Prop} (h : GhoS σ Q) : ∃ S, GhoS σ S ∧ ∀ σ', S σ' → Q σ' := ⟨_, h, fun _ h => h⟩

theorem GhoS.bind' {σ : St} {S : St → Prop} (h : GhoS σ (fun σ' => GhoS σ' S)) : GhoS σ S := h.bind fun _ h => h

/-- The code of slices.Clone. -/
def acClone (g : Bool) (sz bytes : Nat) (z : List PV) : ACode := .seq
  (.reg false [.mk (some 2) none (.mv (.k (.sl .full sz []))) []]) (.seq (.seq
  (.reg false [.mk (some 3) none (.mv (.t 0)) [], .mk (some 4) none (.isnils false (.t 3)) []])
  (.cond (.t 4) (.gseq
  (.reg false [.mk (some 2) none (.mv (.k (.sl .full sz []))) []]) .ret) .skip)) (.seq
  (.reg false [.mk (some 5) none (.bslice g sz z 0 []) [], .mk (some 6) none (.mv (.t 0)) [], .mk (some 7) none (.append sz bytes (.t 5) (.t 6)) [], .mk (some 2) none (.mv (.t 7)) []]) .ret))

theorem clone_ok {f bytes sz : Nat} {g : Bool} {z : List PV} (hf : FnIs Tryz.prog f 8 (acClone g sz bytes z) [.tmp 2]) {tk : Tok} {xs : List PV} {μ : Mem} {L : Lv} {K KP : KA} (hb : xs.length * bytes ≤ 140737488355328 ∧ xs.length ≤ 140737488355328)
    (hK : ∀ j, Fresh μ L j → K (.slv j 0 xs.length sz) (μ.set j (.cells (flats xs))) L) : ACall Tryz.prog f [.sl tk sz xs] μ L K KP := by
  refine acall_of_aw mix hf (by simp) ?_
  unfold acClone
  simp only [wkB, wkC, kernP, rd, rds, reduceIte, Nat.reduceEqDiff, Nat.reduceAdd, binop, intOp_mul, unop, shiftOp, strOp, isNil, fillElems, fillParts, elemZero, FQ, LeaveA, resA, resPV, resPVs, PV.fits, PV.flat, PV.leaf, Nat.reduceBEq, Nat.reduceLT, Nat.reduceLeDiff, Int.reduceLT, Int.reduceLE, Int.reduceToNat]
  simp only [opM, rd, upd_app, reduceIte]
  intro b hb'
  simp only [wkB, wkC, kernP, rd, rds, reduceIte, Nat.reduceEqDiff, Nat.reduceAdd, binop, intOp_mul, unop, shiftOp, strOp, isNil, fillElems, fillParts, elemZero, FQ, LeaveA, resA, resPV, resPVs, PV.fits, PV.flat, PV.leaf, Nat.reduceBEq, Nat.reduceLT, Nat.reduceLeDiff, Int.reduceLT, Int.reduceLE, Int.reduceToNat]
  cases b with
  | true =>
    have e : xs = [] := by
      cases xs with
      | nil => rfl
      | cons x xs => have := hb' (by simp); cases this
    subst e
    simp only [wkB, wkC, kernP, rd, rds, reduceIte, Nat.reduceEqDiff, Nat.reduceAdd, binop, intOp_mul, unop, shiftOp, strOp, isNil, fillElems, fillParts, elemZero, FQ, LeaveA, resA, resPV, resPVs, PV.fits, PV.flat, PV.leaf, Nat.reduceBEq, Nat.reduceLT, Nat.reduceLeDiff, Int.reduceLT, Int.reduceLE, Int.reduceToNat]
    refine gho_intro (GhoS.bind' (GhoS.empty fun j hj => GhoS.slots (t' := upd (fun _ => .junk) 2 (.slv j 0 0 sz)) ?_ ?_))
    · intro n
      simp only [upd_app]
      split
      · exact Wk.emptyv j 0
      · exact Wk.junk _
    · simp only [wkB, wkC, kernP, rd, rds, reduceIte, Nat.reduceEqDiff, Nat.reduceAdd, binop, intOp_mul, unop, shiftOp, strOp, isNil, fillElems, fillParts, elemZero, FQ, LeaveA, resA, resPV, resPVs, PV.fits, PV.flat, PV.leaf, Nat.reduceBEq, Nat.reduceLT, Nat.reduceLeDiff, Int.reduceLT, Int.reduceLE, Int.reduceToNat]
      exact ⟨_, rfl, hK j hj⟩
  | false =>
    simp only [wkB, wkC, kernP, rd, rds, reduceIte, Nat.reduceEqDiff, Nat.reduceAdd, binop, intOp_mul, unop, shiftOp, strOp, isNil, fillElems, fillParts, elemZero, FQ, LeaveA, resA, resPV, resPVs, PV.fits, PV.flat, PV.leaf, Nat.reduceBEq, Nat.reduceLT, Nat.reduceLeDiff, Int.reduceLT, Int.reduceLE, Int.reduceToNat]
    refine app_obj (xs := []) (ys := xs) (tk2 := tk) (by simp only [wkB, wkC, kernP, rd, rds, reduceIte, Nat.reduceEqDiff, Nat.reduceAdd, binop, intOp_mul, unop, shiftOp, strOp, isNil, fillElems, fillParts, elemZero, FQ, LeaveA, resA, resPV, resPVs, PV.fits, PV.flat, PV.leaf, Nat.reduceBEq, Nat.reduceLT, Nat.reduceLeDiff, Int.reduceLT, Int.reduceLE, Int.reduceToNat]) (by simp only [wkB, wkC, kernP, rd, rds, reduceIte, Nat.reduceEqDiff, Nat.reduceAdd, binop, intOp_mul, unop, shiftOp, strOp, isNil, fillElems, fillParts, elemZero, FQ, LeaveA, resA, resPV, resPVs, PV.fits, PV.flat, PV.leaf, Nat.reduceBEq, Nat.reduceLT, Nat.reduceLeDiff, Int.reduceLT, Int.reduceLE, Int.reduceToNat]) (.inl rfl) (by simpa using hb) ?_
    intro j hj
    simp only [wkB, wkC, kernP, rd, rds, reduceIte, Nat.reduceEqDiff, Nat.reduceAdd, binop, intOp_mul, unop, shiftOp, strOp, isNil, fillElems, fillParts, elemZero, FQ, LeaveA, resA, resPV, resPVs, PV.fits, PV.flat, PV.leaf, Nat.reduceBEq, Nat.reduceLT, Nat.reduceLeDiff, Int.reduceLT, Int.reduceLE, Int.reduceToNat]
    exact ⟨_, rfl, hK j hj⟩

end Go.Bm

/- Visitors: lists. -/
namespace Go.Bm
open Go Go.Proofs

theorem mks_int {t : Regs} {μ : Mem} {L : Lv} {K : KA} {g : Bool} {sz bytes : Nat} {z : List PV} {l c : AX} {k k' : IntKind} {n : Int} (hl : rd t l = .int k n) (hc : rd t c = .int k' n) (h0 : 0 ≤ n) (hb : n.toNat * bytes ≤ 140737488355328 ∧ n.toNat ≤ 140737488355328)
    (hK : ∀ i, Fresh μ L i → K (.slv i 0 n.toNat sz) (μ.set i (.cells (List.replicate n.toNat z).flatten)) L) : opM (.mkslice g sz bytes z l c) t μ L K := by
  simp only [opM, hl, hc]
  exact ⟨h0, trivial, hb, hK⟩

/-- The loop of list[T], and its end. -/
def acListR (sz : Nat) : ACode := .seq (.seq
  (.reg false [.mk (some 32) none (.mv (.t 1)) [], .mk (some 33) none (.len (.t 32)) [], .mk (some 34) none (.mv (.k (.int .i64 0))) []])
  (.block 0
  (.loop (.seq
  (.reg false [.mk (some 35) none (.bin .lss (.t 34) (.t 33)) []]) (.seq
  (.cond (.t 35) .skip (.exit 0)) (.seq
  (.block 1 (.seq
  (.reg false [.mk (some 36) none (.mv (.t 34)) [], .mk (some 8) none (.mv (.t 36)) []])
  (.reg false [.mk (some 37) none (.mv (.t 2)) [], .mk (some 38) none (.mv (.t 1)) [], .mk (some 39) none (.mv (.t 8)) [], .mk (some 40) none (.iaddr sz (.t 38) (.t 39)) [], .mk (some 41) none (.call (.t 37) [.t 40]) []])))
  (.reg false [.mk (some 42) none (.bin .add (.t 34) (.k (.int .i64 1))) [], .mk (some 34) none (.mv (.t 42)) []]))))))) (.gseq
  (.reg false [.mk (some 43) none (.mv (.t 1)) [], .mk (some 6) none (.mv (.t 43)) []]) .ret)

/-- The code of list[T]. -/
def acList (g : Bool) (sz bytes : Nat) (z : List PV) (cl : Nat) : ACode := .seq
  (.reg false [.mk (some 3) none (.box 2 (.t 0)) [], .mk (some 6) none (.mv (.k (.sl .full sz []))) []]) (.seq
  (.reg false [.mk (some 9) none (.faddr (.t 3) 0) [], .mk (some 10) none (.load none (.t 9)) [], .mk (some 11) none (.mv (.t 1)) [], .mk (some 12) none (.len (.t 11)) [], .mk (some 13) none (.call (.t 10) [.t 12]) [], .mk (some 7) none (.mv (.t 13)) []]) (.seq (.seq
  (.reg false [.mk (some 14) none (.mv (.t 7)) [], .mk (some 15) none (.mv (.t 1)) [], .mk (some 16) none (.len (.t 15)) [], .mk (some 17) none (.bin .neq (.t 14) (.t 16)) []])
  (.cond (.t 17) (.seq
  (.reg false [.mk (some 18) none (.mv (.t 7)) [], .mk (some 19) none (.bin .leq (.k (.int .i64 0)) (.t 18)) [], .mk (some 20) none (.mv (.t 19)) [], .mk (some 21) (some (some 20, true)) (.mv (.t 7)) [], .mk (some 22) (some (some 20, true)) (.faddr (.t 3) 1) [], .mk (some 23) (some (some 20, true)) (.load none (.t 22)) [], .mk (some 24) (some (some 20, true)) (.call (.t 23) []) [], .mk (some 25) (some (some 20, true)) (.bin .leq (.t 21) (.t 24)) [], .mk (some 26) none (.pick (.t 20) (.t 25) (.k (.bool false))) [], .mk (some 27) none (.call (.k (.fn 67 [] [])) [.t 26]) []])
  (.reg false [.mk (some 28) none (.mv (.t 7)) [], .mk (some 29) none (.mkslice g sz bytes z (.t 28) (.t 28)) [], .mk (some 1) none (.mv (.t 29)) []]))
  (.reg false [.mk (some 30) none (.mv (.t 1)) [], .mk (some 31) none (.call (.k (.fn cl [] [])) [.t 30]) [], .mk (some 1) none (.mv (.t 31)) []]))) (acListR sz)))

/-- Values lie as elements. -/
abbrev RepL (T : Ty) (xs : List PV) (vs : List T.den) : Prop := All2 (fun (x : PV) v => Rep T x.flat v) xs vs

/-- The boxes of the visitor. -/
def Bx (m : Md) (k0 : Nat) (bs : List Nat) (μ : Mem) : Prop := ∀ b ∈ bs, b ≠ k0 ∧ μ b = some (.cells (vis m k0))

theorem Bx.step {m : Md} {k0 : Nat} {bs : List Nat} {E : Nat → Prop} {ws ws' : List Int} {μ μ' : Mem} {L L' : Lv} (h : Bx m k0 bs μ) (hs : VStep m k0 E ws ws' μ L μ' L') (he : ∀ b ∈ bs, ¬ E b) : Bx m k0 bs μ' := by
  intro b hb
  obtain ⟨h1, h2⟩ := h b hb
  exact ⟨h1, by rw [hs.fr b h1 (he b hb) (by rw [h2]; simp), h2]⟩

/-- A function on a pointer visits what it points to. -/
def EachOk (T : Ty) (each : PV) (m : Md) (k0 : Nat) (bs : List Nat) : Prop :=
  ∀ (i off : Nat) (A cs B : List PV) (v v' : T.den) (ws ws' : List Int) (μ : Mem) (L : Lv) (K KP : KA), i ≠ k0 → i ∉ bs → μ i = some (.cells (A ++ cs ++ B)) → A.length = off → Rep T cs v → VS m k0 ws μ L → Bx m k0 bs μ →
    visit m T v ws = some (v', ws') → (∀ cs' μ' L', Rep T cs' v' → μ' i = some (.cells (A ++ cs' ++ B)) → VStep m k0 (· = i) ws ws' μ L μ' L' → K (.tup []) μ' L') → callA Tryz.prog each [.ptr i off] μ L K KP

theorem flats_cons {x : PV} {xs : List PV} : flats (x :: xs) = x.flat ++ flats xs := rfl

theorem RepL.flats_length {T : Ty} : ∀ {xs : List PV} {vs : List T.den}, RepL T xs vs → (flats xs).length = xs.length * T.size
  | [], [], _ => by simp [flats]
  | x :: xs, v :: vs, h => by
    rw [flats_cons, List.length_append, h.1.length, RepL.flats_length h.2, List.length_cons, Nat.add_mul]; omega
  | [], _ :: _, h => h.elim
  | _ :: _, [], h => h.elim

theorem All2.drop_cons {α β : Type} {R : α → β → Prop} : ∀ {xs : List α} {ys : List β} {k : Nat}, All2 R xs ys → k < xs.length → ∃ x y, xs.drop k = x :: xs.drop (k + 1) ∧ ys.drop k = y :: ys.drop (k + 1) ∧ R x y
  | [], _, k, h, hk => by simp at hk
  | x :: xs, [], k, h, hk => h.elim
  | x :: xs, y :: ys, 0, h, hk => ⟨x, y, rfl, rfl, h.1⟩
  | x :: xs, y :: ys, k + 1, h, hk => by
    obtain ⟨a, b, h1, h2, h3⟩ := All2.drop_cons h.2 (k := k) (by simpa using hk)
    exact ⟨a, b, by simpa using h1, by simpa using h2, h3⟩

theorem All2.snoc {α β : Type} {R : α → β → Prop} : ∀ {xs : List α} {ys : List β} {x : α} {y : β}, All2 R xs ys → R x y → All2 R (xs ++ [x]) (ys ++ [y])
  | [], [], x, y, _, h => ⟨h, trivial⟩
  | a :: xs, b :: ys, x, y, h, h' => ⟨h.1, All2.snoc h.2 h'⟩
  | [], _ :: _, _, _, h, _ => h.elim
  | _ :: _, [], _, _, h, _ => h.elim


theorem VStep.del {m : Md} {k0 i : Nat} {E : Nat → Prop} {ws ws' : List Int} {μ μ' : Mem} {L L' : Lv} (h : VStep m k0 E ws ws' μ L μ' L') (hi : i ≠ k0) (he : E i) : VStep m k0 E ws ws' μ L (μ'.del i) L' := by
  obtain ⟨tk, tk', h1, h2, h3, h4⟩ := h.st
  have hi' : k0 ≠ i := fun e => hi e.symm
  refine ⟨⟨tk, tk', h1, by unfold WS at h2 ⊢; simpa [Mem.del, hi'] using h2, h3, h4⟩, h.len, fun j q1 q2 q3 => ?_⟩
  have hj : j ≠ i := fun e => q2 (e ▸ he)
  simp [Mem.del, hj, h.fr j q1 q2 q3]

theorem VStep.fresh {m : Md} {k0 j : Nat} {ws ws' : List Int} {μ μ' : Mem} {L L' : Lv} {o : AObj} (h : VStep m k0 (· = j) ws ws' (μ.set j o) L μ' L') (hb : μ j = none) (hk : μ k0 ≠ none) : VStep m k0 (fun _ => False) ws ws' μ L μ' L' := by
  have hne : k0 ≠ j := fun e => hk (e ▸ hb)
  obtain ⟨tk, tk', h1, h2, h3, h4⟩ := h.st
  refine ⟨⟨tk, tk', by unfold WS at h1 ⊢; simpa [Mem.set, hne] using h1, h2, h3, h4⟩, h.len, fun i q1 _ q3 => ?_⟩
  have hj : i ≠ j := fun e => q3 (e ▸ hb)
  rw [h.fr i q1 hj (by simpa [Mem.set, hj] using q3)]
  simp [Mem.set, hj]

theorem listR_ok {T : Ty} {m : Md} {k0 j : Nat} {bs : List Nat} {each : PV} {xs : List PV} {us vs : List T.den} {ws ws' : List Int} {t : Regs} {μ : Mem} {L : Lv} {K KP : KA} (he : EachOk T each m k0 bs) (h : VS m k0 ws μ L) (hb : Bx m k0 bs μ) (hjk : j ≠ k0) (hjb : j ∉ bs)
    (hn : xs.length < 4611686018427387904) (hj : μ j = some (.cells (flats xs))) (hx : RepL T xs us) (hv : visitL (visit m T) us ws = some (vs, ws')) (t1 : t 1 = .slv j 0 xs.length T.size) (t2 : t 2 = each)
    (hK : ∀ ys μ' L', RepL T ys vs → VStep m k0 (· = j) ws ws' μ L μ' L' → K (.sl .no T.size ys) μ' L') :
    AW Tryz.prog (acListR T.size) (FQ Tryz.prog [.tmp 6] K KP) ⟨t, μ, L, []⟩ := by
  unfold acListR
  simp only [wkB, wkC, kernP, rd, rds, reduceIte, Nat.reduceEqDiff, Nat.reduceAdd, binop, intOp_mul, unop, shiftOp, strOp, isNil, fillElems, fillParts, elemZero, FQ, LeaveA, resA, resPV, resPVs, PV.fits, PV.flat, PV.leaf, Nat.reduceBEq, Nat.reduceLT, Nat.reduceLeDiff, Int.reduceLT, Int.reduceLE, Int.reduceToNat, t1]
  refine aw_for xs.length (fun k t μ' L' df => ∃ ds us1 us2 ws1, vs = us1 ++ us2 ∧ RepL T ds us1 ∧ us1.length = k ∧ visitL (visit m T) (us.drop k) ws1 = some (us2, ws') ∧ μ' j = some (.cells (flats ds ++ flats (xs.drop k))) ∧
    VStep m k0 (· = j) ws ws1 μ L μ' L' ∧ t 1 = .slv j 0 xs.length T.size ∧ t 2 = each ∧ t 33 = .int .i64 xs.length ∧ t 34 = .int .i64 k ∧ df = []) hn ?_ ?_ ?_ ?_ (by decide)
  · rintro k t μ' L' df ⟨ds, us1, us2, ws1, h1, h2, h3, h4, h5, h6, t1, t2, t33, t34, rfl⟩
    exact ⟨t34, t33⟩
  · refine ⟨[], [], vs, ws, rfl, trivial, rfl, by simpa using hv, by simpa [flats] using hj, .refl h, ?_⟩
    simp only [wkB, wkC, kernP, rd, rds, reduceIte, Nat.reduceEqDiff, Nat.reduceAdd, binop, intOp_mul, unop, shiftOp, strOp, isNil, fillElems, fillParts, elemZero, FQ, LeaveA, resA, resPV, resPVs, PV.fits, PV.flat, PV.leaf, Nat.reduceBEq, Nat.reduceLT, Nat.reduceLeDiff, Int.reduceLT, Int.reduceLE, Int.reduceToNat, t1, t2]
    rfl
  · rintro t μ' L' df ⟨ds, us1, us2, ws1, h1, h2, h3, h4, h5, h6, t1, t2, t33, t34, rfl⟩
    have e1 : us.drop xs.length = [] := by rw [All2.length hx]; simp
    rw [e1] at h4
    rw [List.drop_length] at h5
    simp only [visitL, Option.some.injEq, Prod.mk.injEq] at h4
    obtain ⟨rfl, rfl⟩ := h4
    rw [List.append_nil] at h1
    subst h1
    have hl : ds.length = xs.length := by rw [All2.length h2, h3]
    simp only [wkB, wkC, kernP, rd, rds, reduceIte, Nat.reduceEqDiff, Nat.reduceAdd, binop, intOp_mul, unop, shiftOp, strOp, isNil, fillElems, fillParts, elemZero, FQ, LeaveA, resA, resPV, resPVs, PV.fits, PV.flat, PV.leaf, Nat.reduceBEq, Nat.reduceLT, Nat.reduceLeDiff, Int.reduceLT, Int.reduceLE, Int.reduceToNat, t1, t2]
    refine gho_intro (GhoS.freeze (j := j) (sz := T.size) (xs := ds) (t' := upd (fun _ => .junk) 6 (.sl .no T.size ds)) (by simpa [flats] using h5) ?_ ?_ ?_)
    · intro x hx'
      obtain ⟨n, hn', rfl⟩ := List.getElem_of_mem hx'
      obtain ⟨a, b, g1, g2, g3⟩ := All2.drop_cons h2 hn'
      rw [List.drop_eq_getElem_cons hn'] at g1
      simp only [List.cons.injEq] at g1
      rw [g1.1]; exact g3.length
    · intro n
      simp only [upd_app]
      by_cases e : n = 6
      · subst e
        right
        simp [hl]
      · left
        simp only [e, if_false]
        exact Wk.junk _
    · simp only [wkB, wkC, kernP, rd, rds, reduceIte, Nat.reduceEqDiff, Nat.reduceAdd, binop, intOp_mul, unop, shiftOp, strOp, isNil, fillElems, fillParts, elemZero, FQ, LeaveA, resA, resPV, resPVs, PV.fits, PV.flat, PV.leaf, Nat.reduceBEq, Nat.reduceLT, Nat.reduceLeDiff, Int.reduceLT, Int.reduceLE, Int.reduceToNat]
      exact ⟨_, rfl, hK _ _ _ h2 (h6.del hjk rfl)⟩
  · rintro k t μ' L' df hk ⟨ds, us1, us2, ws1, h1, h2, h3, h4, h5, h6, t1, t2, t33, t34, rfl⟩
    obtain ⟨x, u, g1, g2, g3⟩ := All2.drop_cons hx hk
    rw [g2] at h4
    rw [g1] at h5
    simp only [visitL] at h4
    split at h4
    · cases h4
    · rename_i y ws2 hy
      split at h4
      · cases h4
      · rename_i us3 ws3 hys
        simp only [Option.some.injEq, Prod.mk.injEq] at h4
        obtain ⟨rfl, rfl⟩ := h4
        have e1 : (0 : Int) ≤ (k : Int) := by omega
        have e2 : (k : Int) < (xs.length : Int) := by omega
        have e3 : (flats ds).length = 0 + k * T.size := by rw [RepL.flats_length h2, All2.length h2, h3]; omega
        have e4 : μ' j = some (.cells (flats ds ++ x.flat ++ flats (xs.drop (k + 1)))) := by rw [h5, flats_cons, List.append_assoc]
        simp only [wkB, wkC, kernP, rd, rds, reduceIte, Nat.reduceEqDiff, Nat.reduceAdd, binop, intOp_mul, unop, shiftOp, strOp, isNil, fillElems, fillParts, elemZero, FQ, LeaveA, resA, resPV, resPVs, PV.fits, PV.flat, PV.leaf, Nat.reduceBEq, Nat.reduceLT, Nat.reduceLeDiff, Int.reduceLT, Int.reduceLE, Int.reduceToNat, t1, t2, t33, t34, e1, e2]
        refine he j _ (flats ds) x.flat _ u y ws1 ws2 μ' L' _ _ hjk hjb e4 (by rw [e3]; simp) g3 h6.vs (hb.step h6 (fun b hb' e => hjb (e ▸ hb'))) hy ?_
        intro cs' μ2 L2 r1 r2 r3
        simp only [wkB, wkC, kernP, rd, rds, reduceIte, Nat.reduceEqDiff, Nat.reduceAdd, binop, intOp_mul, unop, shiftOp, strOp, isNil, fillElems, fillParts, elemZero, FQ, LeaveA, resA, resPV, resPVs, PV.fits, PV.flat, PV.leaf, Nat.reduceBEq, Nat.reduceLT, Nat.reduceLeDiff, Int.reduceLT, Int.reduceLE, Int.reduceToNat, t1, t2, t33, t34]
        refine ⟨ds ++ [.agg cs'], us1 ++ [y], us3, ws2, by rw [h1]; simp, All2.snoc h2 (by simpa [PV.flat] using r1), by simp [h3], hys, ?_, h6.trans r3⟩
        rw [r2, flats_append]
        simp [flats, PV.flat]

theorem visit_list {m : Md} {T : Ty} {vs vs' : List T.den} {ws ws' : List Int} (h : visit m (.list T) vs ws = some (vs', ws')) :
    ∃ n ws1 us, m.num (vs.length : Int) ws = some (n, ws1) ∧ sized m T.zero 1 vs n ws1 = some us ∧ visitL (visit m T) us ws1 = some (vs', ws') := by
  simp only [visit] at h
  split at h
  · cases h
  · rename_i n ws1 h1
    split at h
    · cases h
    · rename_i us h2
      exact ⟨n, ws1, us, h1, h2, h⟩

theorem All2.replicate {α β : Type} {R : α → β → Prop} {x : α} {y : β} (h : R x y) : ∀ n, All2 R (List.replicate n x) (List.replicate n y)
  | 0 => trivial
  | n + 1 => ⟨h, All2.replicate h n⟩

theorem list_ok {T : Ty} {f cl bytes : Nat} {g : Bool} (hf : FnIs Tryz.prog f 44 (acList g T.size bytes T.zeroCs cl) [.tmp 6]) (hcl : FnIs Tryz.prog cl 8 (acClone g T.size bytes T.zeroCs) [.tmp 2]) (hbytes : bytes ≤ 128)
    {m : Md} {k0 : Nat} {bs : List Nat} {each : PV} {tk : Tok} {xs : List PV} {vs vs' : List T.den} {ws ws' : List Int} {μ : Mem} {L : Lv} {K KP : KA} (he : EachOk T each m k0 bs) (h : VS m k0 ws μ L) (hb : Bx m k0 bs μ) (hx : RepL T xs vs)
    (hv : visit m (.list T) vs ws = some (vs', ws'))
    (hK : ∀ ys μ' L', RepL T ys vs' → VStep m k0 (fun _ => False) ws ws' μ L μ' L' → K (.sl .no T.size ys) μ' L') :
    ACall Tryz.prog f [.agg (vis m k0), .sl tk T.size xs, each] μ L K KP := by
  obtain ⟨n, ws1, us, hnum, hsz, hvl⟩ := visit_list hv
  have hlen : xs.length = vs.length := All2.length hx
  refine acall_of_aw mix hf (by simp) ?_
  unfold acList
  have hfit := vis_fits m k0
  have e3 := vis_num m k0
  simp only [PV.fits, PV.flat] at hfit
  simp only [wkB, wkC, kernP, rd, rds, reduceIte, Nat.reduceEqDiff, Nat.reduceAdd, binop, intOp_mul, unop, shiftOp, strOp, isNil, fillElems, fillParts, elemZero, FQ, LeaveA, resA, resPV, resPVs, PV.fits, PV.flat, PV.leaf, Nat.reduceBEq, Nat.reduceLT, Nat.reduceLeDiff, Int.reduceLT, Int.reduceLE, Int.reduceToNat, hfit]
  intro b hbf
  have hbk : b ≠ k0 := fun e => h.ne (e ▸ hbf.1)
  simp only [wkB, wkC, kernP, rd, rds, reduceIte, Nat.reduceEqDiff, Nat.reduceAdd, binop, intOp_mul, unop, shiftOp, strOp, isNil, fillElems, fillParts, elemZero, FQ, LeaveA, resA, resPV, resPVs, PV.fits, PV.flat, PV.leaf, Nat.reduceBEq, Nat.reduceLT, Nat.reduceLeDiff, Int.reduceLT, Int.reduceLE, Int.reduceToNat, e3, hlen]
  refine num_ok (h.set hbk) hnum ?_
  intro μ1 L1 s1
  have g6 : μ1 b = some (.cells (vis m k0)) := by rw [s1.fr b hbk (fun h => h) (by simp [Mem.set])]; simp [Mem.set]
  have hb1 : Bx m k0 bs μ1 := by
    intro c hc
    obtain ⟨q1, q2⟩ := hb c hc
    have hcb : c ≠ b := fun e => by rw [e, hbf.1] at q2; cases q2
    refine ⟨q1, ?_⟩
    rw [s1.fr c q1 (fun h => h) (by simp [Mem.set, hcb, q2])]
    simp [Mem.set, hcb, q2]
  simp only [sized] at hsz
  split at hsz
  · cases hsz
  · rename_i hmax
    have hle : xs.length ≤ wmax := by omega
    have fin : ∀ {j : Nat} {o : AObj} {ys : List PV} {μ' : Mem} {L' : Lv}, μ1 j = none → RepL T ys vs' → VStep m k0 (· = j) ws1 ws' (μ1.set j o) L1 μ' L' → K (.sl .no T.size ys) μ' L' := by
      intro j o ys μ' L' hj hy hs
      exact hK _ _ _ hy ((s1.box hbf h.ne).trans (hs.fresh hj s1.vs.ne))
    split at hsz
    · rename_i hnn
      cases hsz
      have e4 : (n != (vs.length : Int)) = false := by simp [hnn]
      simp only [wkB, wkC, kernP, rd, rds, reduceIte, Nat.reduceEqDiff, Nat.reduceAdd, binop, intOp_mul, unop, shiftOp, strOp, isNil, fillElems, fillParts, elemZero, FQ, LeaveA, resA, resPV, resPVs, PV.fits, PV.flat, PV.leaf, Nat.reduceBEq, Nat.reduceLT, Nat.reduceLeDiff, Int.reduceLT, Int.reduceLE, Int.reduceToNat, e3, hlen, e4]
      refine clone_ok hcl (by unfold wmax at hle; constructor <;> (have := Nat.mul_le_mul_left xs.length hbytes; omega)) ?_
      intro j hj
      simp only [wkB, wkC, kernP, rd, rds, reduceIte, Nat.reduceEqDiff, Nat.reduceAdd, binop, intOp_mul, unop, shiftOp, strOp, isNil, fillElems, fillParts, elemZero, FQ, LeaveA, resA, resPV, resPVs, PV.fits, PV.flat, PV.leaf, Nat.reduceBEq, Nat.reduceLT, Nat.reduceLeDiff, Int.reduceLT, Int.reduceLE, Int.reduceToNat]
      refine listR_ok he (s1.vs.set (fun e => s1.vs.ne (e ▸ hj.1))) (fun c hc => ⟨(hb1 c hc).1, by
        have := (hb1 c hc).2
        have hcj : c ≠ j := fun e => by rw [e, hj.1] at this; cases this
        simp [Mem.set, hcj, this]⟩) (fun e => s1.vs.ne (e ▸ hj.1)) (fun hc => by have := (hb1 j hc).2; rw [hj.1] at this; cases this) (by unfold wmax at hle; omega) (by simp [Mem.set]) hx hvl (by simp only [wkB, wkC, kernP, rd, rds, reduceIte, Nat.reduceEqDiff, Nat.reduceAdd, binop, intOp_mul, unop, shiftOp, strOp, isNil, fillElems, fillParts, elemZero, FQ, LeaveA, resA, resPV, resPVs, PV.fits, PV.flat, PV.leaf, Nat.reduceBEq, Nat.reduceLT, Nat.reduceLeDiff, Int.reduceLT, Int.reduceLE, Int.reduceToNat]) (by simp only [wkB, wkC, kernP, rd, rds, reduceIte, Nat.reduceEqDiff, Nat.reduceAdd, binop, intOp_mul, unop, shiftOp, strOp, isNil, fillElems, fillParts, elemZero, FQ, LeaveA, resA, resPV, resPVs, PV.fits, PV.flat, PV.leaf, Nat.reduceBEq, Nat.reduceLT, Nat.reduceLeDiff, Int.reduceLT, Int.reduceLE, Int.reduceToNat]) ?_
      intro ys μ' L' hy hs
      exact fin hj.1 hy hs
    · rename_i hnn
      split at hsz
      · rename_i hc
        obtain ⟨rfl, hc1, hc2⟩ := hc
        cases hsz
        have e4 : (n != (vs.length : Int)) = true := by simp [hnn]
        have e5 : (vis .dec k0)[1]? = some (.fn 82 [] [.ptr k0 0]) := rfl
        have e6 : decide ((0 : Int) ≤ n) = true := by simpa using hc1
        have e7 : decide (n ≤ (ws1.length : Int)) = true := by simp; omega
        simp only [wkB, wkC, kernP, rd, rds, reduceIte, Nat.reduceEqDiff, Nat.reduceAdd, binop, intOp_mul, unop, shiftOp, strOp, isNil, fillElems, fillParts, elemZero, FQ, LeaveA, resA, resPV, resPVs, PV.fits, PV.flat, PV.leaf, Nat.reduceBEq, Nat.reduceLT, Nat.reduceLeDiff, Int.reduceLT, Int.reduceLE, Int.reduceToNat, e3, hlen, e4, e6, g6, e5]
        refine limit_ok s1.vs ?_
        simp only [wkB, wkC, kernP, rd, rds, reduceIte, Nat.reduceEqDiff, Nat.reduceAdd, binop, intOp_mul, unop, shiftOp, strOp, isNil, fillElems, fillParts, elemZero, FQ, LeaveA, resA, resPV, resPVs, PV.fits, PV.flat, PV.leaf, Nat.reduceBEq, Nat.reduceLT, Nat.reduceLeDiff, Int.reduceLT, Int.reduceLE, Int.reduceToNat, e3, hlen, e4, e6, e7]
        refine need_ok ?_
        simp only [wkB, wkC, kernP, rd, rds, reduceIte, Nat.reduceEqDiff, Nat.reduceAdd, binop, intOp_mul, unop, shiftOp, strOp, isNil, fillElems, fillParts, elemZero, FQ, LeaveA, resA, resPV, resPVs, PV.fits, PV.flat, PV.leaf, Nat.reduceBEq, Nat.reduceLT, Nat.reduceLeDiff, Int.reduceLT, Int.reduceLE, Int.reduceToNat]
        have hm1 : ws1.length ≤ 1099511627776 := s1.vs.1
        have hnt : n.toNat ≤ 1099511627776 := by omega
        refine mks_int (n := n) (k := .i64) (k' := .i64) (by simp only [wkB, wkC, kernP, rd, rds, reduceIte, Nat.reduceEqDiff, Nat.reduceAdd, binop, intOp_mul, unop, shiftOp, strOp, isNil, fillElems, fillParts, elemZero, FQ, LeaveA, resA, resPV, resPVs, PV.fits, PV.flat, PV.leaf, Nat.reduceBEq, Nat.reduceLT, Nat.reduceLeDiff, Int.reduceLT, Int.reduceLE, Int.reduceToNat]) (by simp only [wkB, wkC, kernP, rd, rds, reduceIte, Nat.reduceEqDiff, Nat.reduceAdd, binop, intOp_mul, unop, shiftOp, strOp, isNil, fillElems, fillParts, elemZero, FQ, LeaveA, resA, resPV, resPVs, PV.fits, PV.flat, PV.leaf, Nat.reduceBEq, Nat.reduceLT, Nat.reduceLeDiff, Int.reduceLT, Int.reduceLE, Int.reduceToNat]) hc1 (by constructor <;> (have := Nat.mul_le_mul hnt hbytes; omega)) ?_
        intro j hj
        simp only [wkB, wkC, kernP, rd, rds, reduceIte, Nat.reduceEqDiff, Nat.reduceAdd, binop, intOp_mul, unop, shiftOp, strOp, isNil, fillElems, fillParts, elemZero, FQ, LeaveA, resA, resPV, resPVs, PV.fits, PV.flat, PV.leaf, Nat.reduceBEq, Nat.reduceLT, Nat.reduceLeDiff, Int.reduceLT, Int.reduceLE, Int.reduceToNat]
        have hfl : (List.replicate n.toNat T.zeroCs).flatten = flats (List.replicate n.toNat (PV.agg T.zeroCs)) := by simp [flats, PV.flat, List.flatMap_replicate]
        rw [hfl]
        have hln : (List.replicate n.toNat (PV.agg T.zeroCs)).length = n.toNat := by simp
        refine listR_ok (xs := List.replicate n.toNat (PV.agg T.zeroCs)) (us := List.replicate n.toNat T.zero) he (s1.vs.set (fun e => s1.vs.ne (e ▸ hj.1))) (fun c hc => ⟨(hb1 c hc).1, by
          have := (hb1 c hc).2
          have hcj : c ≠ j := fun e => by rw [e, hj.1] at this; cases this
          simp [Mem.set, hcj, this]⟩) (fun e => s1.vs.ne (e ▸ hj.1)) (fun hc => by have := (hb1 j hc).2; rw [hj.1] at this; cases this) (by omega) (by simp [Mem.set]) (All2.replicate (by simpa [PV.flat] using Rep.zero T) _) hvl (by rw [hln]; simp only [wkB, wkC, kernP, rd, rds, reduceIte, Nat.reduceEqDiff, Nat.reduceAdd, binop, intOp_mul, unop, shiftOp, strOp, isNil, fillElems, fillParts, elemZero, FQ, LeaveA, resA, resPV, resPVs, PV.fits, PV.flat, PV.leaf, Nat.reduceBEq, Nat.reduceLT, Nat.reduceLeDiff, Int.reduceLT, Int.reduceLE, Int.reduceToNat]) (by simp only [wkB, wkC, kernP, rd, rds, reduceIte, Nat.reduceEqDiff, Nat.reduceAdd, binop, intOp_mul, unop, shiftOp, strOp, isNil, fillElems, fillParts, elemZero, FQ, LeaveA, resA, resPV, resPVs, PV.fits, PV.flat, PV.leaf, Nat.reduceBEq, Nat.reduceLT, Nat.reduceLeDiff, Int.reduceLT, Int.reduceLE, Int.reduceToNat]) ?_
        intro ys μ' L' hy hs
        exact fin hj.1 hy hs
      · cases hsz

end Go.Bm

/- Visitors: functions on pointers. -/
namespace Go.Bm
open Go Go.Proofs

/-- Numbers side by side. -/
def Ty.nums : Nat → Ty
  | 0 => .int
  | n + 1 => .pair .int (Ty.nums n)

def Ty.toL : (n : Nat) → (Ty.nums n).den → List Int
  | 0, x => [(x : Int)]
  | n + 1, (x, v) => x :: Ty.toL n v

theorem toL_length : ∀ (n : Nat) (v : (Ty.nums n).den), (Ty.toL n v).length = n + 1
  | 0, _ => rfl
  | n + 1, (_, v) => by simp [Ty.toL, toL_length n v]

theorem rep_nums : ∀ (n : Nat) {cs : List PV} {v : (Ty.nums n).den}, Rep (Ty.nums n) cs v → cs = ints (Ty.toL n v)
  | 0, _, _, h => h
  | n + 1, _, (x, v), h => by
    obtain ⟨c1, c2, rfl, h1, h2⟩ := h
    rw [show c1 = [PV.int .i64 x] from h1, rep_nums n h2]; rfl

theorem nums_rep : ∀ (n : Nat) (v : (Ty.nums n).den), Rep (Ty.nums n) (ints (Ty.toL n v)) v
  | 0, _ => rfl
  | n + 1, (x, v) => ⟨[PV.int .i64 x], _, rfl, rfl, nums_rep n v⟩

theorem visit_nums {m : Md} : ∀ (n : Nat) {v v' : (Ty.nums n).den} {ws ws' : List Int}, visit m (Ty.nums n) v ws = some (v', ws') → visitL m.num (Ty.toL n v) ws = some (Ty.toL n v', ws')
  | 0, v, v', ws, ws', h => by
    have h' : m.num v ws = some (v', ws') := h
    simp only [Ty.toL, visitL, h']
  | n + 1, (x, v), (x', v'), ws, ws', h => by
    simp only [Ty.nums, visit] at h
    split at h
    · cases h
    · rename_i y ws1 h1
      split at h
      · cases h
      · rename_i y' ws2 h2
        simp only [Option.some.injEq, Prod.mk.injEq] at h
        obtain ⟨⟨rfl, rfl⟩, rfl⟩ := h
        simp only [Ty.toL, visitL, h1, visit_nums n h2]

theorem nums_ok {n : Nat} {m : Md} {k0 i off : Nat} {A cs B : List PV} {tk : Tok} {v v' : (Ty.nums n).den} {ws ws' : List Int} {μ : Mem} {L : Lv} {K KP : KA} (hi : i ≠ k0) (hc : μ i = some (.cells (A ++ cs ++ B))) (ho : A.length = off) (hr : Rep (Ty.nums n) cs v) (hn : n < 1000)
    (h : VS m k0 ws μ L) (hv : visit m (Ty.nums n) v ws = some (v', ws'))
    (hK : ∀ cs' μ' L', Rep (Ty.nums n) cs' v' → μ' i = some (.cells (A ++ cs' ++ B)) → VStep m k0 (· = i) ws ws' μ L μ' L' → K (.tup []) μ' L') :
    ACall Tryz.prog 27 [.agg (vis m k0), .sl tk 1 ((List.range (n + 1)).map fun j => .ptr i (off + j))] μ L K KP := by
  have e := rep_nums n hr
  subst e
  have hl := toL_length n v
  have := numbers_ok (tk := tk) (K := K) (KP := KP) hi hc ho (by omega) h (visit_nums n hv) (fun μ' L' h1 h2 => hK _ _ _ (nums_rep n v') h1 h2)
  rw [hl] at this
  exact this

/-- A visitor's function. -/
def VisOk (T : Ty) (f : Nat) : Prop :=
  ∀ (m : Md) (k0 i off : Nat) (A cs B : List PV) (v v' : T.den) (ws ws' : List Int) (μ : Mem) (L : Lv) (K KP : KA), i ≠ k0 → μ i = some (.cells (A ++ cs ++ B)) → A.length = off → Rep T cs v → VS m k0 ws μ L →
    visit m T v ws = some (v', ws') → (∀ cs' μ' L', Rep T cs' v' → μ' i = some (.cells (A ++ cs' ++ B)) → VStep m k0 (· = i) ws ws' μ L μ' L' → K (.tup []) μ' L') → ACall Tryz.prog f [.agg (vis m k0), .ptr i off] μ L K KP

theorem EachOk.of_vis {T : Ty} {f : Nat} (h : VisOk T f) (m : Md) (k0 : Nat) : EachOk T (.fn f [.agg (vis m k0)] []) m k0 [] := by
  intro i off A cs B v v' ws ws' μ L K KP h1 _ h3 h4 h5 h6 _ h8 hK
  exact h m k0 i off A cs B v v' ws ws' μ L K KP h1 h3 h4 h5 h6 h8 hK

/-- One with the visitor in a box. -/
def BoxOk (T : Ty) (f : Nat) : Prop := ∀ (m : Md) (k0 b : Nat), EachOk T (.fn f [] [.ptr b 0]) m k0 [b]

theorem vis_take (m : Md) (k0 : Nat) : List.take 2 (vis m k0) = vis m k0 := by cases m <;> rfl

theorem VStep.putAt {m : Md} {k0 i : Nat} {ws ws' : List Int} {μ μ' : Mem} {L L' : Lv} {o : AObj} (h : VStep m k0 (fun _ => False) ws ws' μ L μ' L') (hi : i ≠ k0) : VStep m k0 (· = i) ws ws' μ L (μ'.set i o) L' :=
  VStep.set (E := (· = i)) (h.weak (fun _ h => h.elim)) hi rfl

theorem ints1_ok : BoxOk .int 79 := by
  intro m k0 b i off A cs B v v' ws ws' μ L K KP h1 h2 h3 h4 h5 h6 h7 h8 hK
  refine acall_of_aw mix fn79 (by simp) ?_
  unfold ac79
  have g6 := (h7 b (by simp)).2
  simp only [wkB, wkC, kernP, rd, rds, reduceIte, Nat.reduceEqDiff, Nat.reduceAdd, binop, intOp_mul, unop, shiftOp, strOp, isNil, fillElems, fillParts, elemZero, FQ, LeaveA, resA, resPV, resPVs, PV.fits, PV.flat, PV.leaf, Nat.reduceBEq, Nat.reduceLT, Nat.reduceLeDiff, Int.reduceLT, Int.reduceLE, Int.reduceToNat, g6, vis_len, vis_take]
  refine nums_ok (n := 0) (A := A) (B := B) h1 h3 h4 h5 (by decide) h6 h8 ?_
  intro cs' μ' L' r1 r2 r3
  simp only [wkB, wkC, kernP, rd, rds, reduceIte, Nat.reduceEqDiff, Nat.reduceAdd, binop, intOp_mul, unop, shiftOp, strOp, isNil, fillElems, fillParts, elemZero, FQ, LeaveA, resA, resPV, resPVs, PV.fits, PV.flat, PV.leaf, Nat.reduceBEq, Nat.reduceLT, Nat.reduceLeDiff, Int.reduceLT, Int.reduceLE, Int.reduceToNat]
  exact ⟨_, rfl, hK _ _ _ r1 r2 r3⟩

theorem box32_ok : BoxOk (Ty.nums 2) 32 := by
  intro m k0 b i off A cs B v v' ws ws' μ L K KP h1 h2 h3 h4 h5 h6 h7 h8 hK
  refine acall_of_aw mix fn32 (by simp) ?_
  unfold ac32
  have g6 := (h7 b (by simp)).2
  refine aw_draw (by decide) (fun _ _ _ h => h) ?_
  simp only [wkB, wkC, kernP, rd, rds, reduceIte, Nat.reduceEqDiff, Nat.reduceAdd, binop, intOp_mul, unop, shiftOp, strOp, isNil, fillElems, fillParts, elemZero, FQ, LeaveA, resA, resPV, resPVs, PV.fits, PV.flat, PV.leaf, Nat.reduceBEq, Nat.reduceLT, Nat.reduceLeDiff, Int.reduceLT, Int.reduceLE, Int.reduceToNat, g6, vis_len, vis_take]
  refine nums_ok (n := 2) (A := A) (B := B) h1 h3 h4 h5 (by decide) h6 h8 ?_
  intro cs' μ' L' r1 r2 r3
  simp only [wkB, wkC, kernP, rd, rds, reduceIte, Nat.reduceEqDiff, Nat.reduceAdd, binop, intOp_mul, unop, shiftOp, strOp, isNil, fillElems, fillParts, elemZero, FQ, LeaveA, resA, resPV, resPVs, PV.fits, PV.flat, PV.leaf, Nat.reduceBEq, Nat.reduceLT, Nat.reduceLeDiff, Int.reduceLT, Int.reduceLE, Int.reduceToNat]
  exact ⟨_, rfl, hK _ _ _ r1 r2 r3⟩

theorem box77_ok : BoxOk (Ty.nums 2) 77 := by
  intro m k0 b i off A cs B v v' ws ws' μ L K KP h1 h2 h3 h4 h5 h6 h7 h8 hK
  refine acall_of_aw mix fn77 (by simp) ?_
  unfold ac77
  have g6 := (h7 b (by simp)).2
  refine aw_draw (by decide) (fun _ _ _ h => h) ?_
  simp only [wkB, wkC, kernP, rd, rds, reduceIte, Nat.reduceEqDiff, Nat.reduceAdd, binop, intOp_mul, unop, shiftOp, strOp, isNil, fillElems, fillParts, elemZero, FQ, LeaveA, resA, resPV, resPVs, PV.fits, PV.flat, PV.leaf, Nat.reduceBEq, Nat.reduceLT, Nat.reduceLeDiff, Int.reduceLT, Int.reduceLE, Int.reduceToNat, g6, vis_len, vis_take]
  refine nums_ok (n := 2) (A := A) (B := B) h1 h3 h4 h5 (by decide) h6 h8 ?_
  intro cs' μ' L' r1 r2 r3
  simp only [wkB, wkC, kernP, rd, rds, reduceIte, Nat.reduceEqDiff, Nat.reduceAdd, binop, intOp_mul, unop, shiftOp, strOp, isNil, fillElems, fillParts, elemZero, FQ, LeaveA, resA, resPV, resPVs, PV.fits, PV.flat, PV.leaf, Nat.reduceBEq, Nat.reduceLT, Nat.reduceLeDiff, Int.reduceLT, Int.reduceLE, Int.reduceToNat]
  exact ⟨_, rfl, hK _ _ _ r1 r2 r3⟩

theorem box66_ok : BoxOk (Ty.nums 9) 66 := by
  intro m k0 b i off A cs B v v' ws ws' μ L K KP h1 h2 h3 h4 h5 h6 h7 h8 hK
  refine acall_of_aw mix fn66 (by simp) ?_
  unfold ac66
  have g6 := (h7 b (by simp)).2
  refine aw_draw (by decide) (fun _ _ _ h => h) ?_
  simp only [wkB, wkC, kernP, rd, rds, reduceIte, Nat.reduceEqDiff, Nat.reduceAdd, binop, intOp_mul, unop, shiftOp, strOp, isNil, fillElems, fillParts, elemZero, FQ, LeaveA, resA, resPV, resPVs, PV.fits, PV.flat, PV.leaf, Nat.reduceBEq, Nat.reduceLT, Nat.reduceLeDiff, Int.reduceLT, Int.reduceLE, Int.reduceToNat, g6, vis_len, vis_take]
  refine nums_ok (n := 9) (A := A) (B := B) h1 h3 h4 h5 (by decide) h6 h8 ?_
  intro cs' μ' L' r1 r2 r3
  simp only [wkB, wkC, kernP, rd, rds, reduceIte, Nat.reduceEqDiff, Nat.reduceAdd, binop, intOp_mul, unop, shiftOp, strOp, isNil, fillElems, fillParts, elemZero, FQ, LeaveA, resA, resPV, resPVs, PV.fits, PV.flat, PV.leaf, Nat.reduceBEq, Nat.reduceLT, Nat.reduceLeDiff, Int.reduceLT, Int.reduceLE, Int.reduceToNat]
  exact ⟨_, rfl, hK _ _ _ r1 r2 r3⟩

theorem VS.box {m : Md} {k0 b : Nat} {ws : List Int} {μ : Mem} {L : Lv} {o : AObj} (h : VS m k0 ws μ L) (hb : Fresh μ L b) : VS m k0 ws (μ.set b o) L := h.set (fun e => h.ne (e ▸ hb.1))

theorem abs_ok : VisOk (Ty.nums 4) 71 := by
  intro m k0 i off A cs B v v' ws ws' μ L K KP h1 h3 h4 h5 h6 h8 hK
  refine acall_of_aw mix fn71 (by simp) ?_
  unfold ac71
  have hfit := vis_fits m k0
  simp only [PV.fits, PV.flat] at hfit
  simp only [wkB, wkC, kernP, rd, rds, reduceIte, Nat.reduceEqDiff, Nat.reduceAdd, binop, intOp_mul, unop, shiftOp, strOp, isNil, fillElems, fillParts, elemZero, FQ, LeaveA, resA, resPV, resPVs, PV.fits, PV.flat, PV.leaf, Nat.reduceBEq, Nat.reduceLT, Nat.reduceLeDiff, Int.reduceLT, Int.reduceLE, Int.reduceToNat, hfit]
  intro b hb
  have hib : i ≠ b := fun e => by rw [e, hb.1] at h3; cases h3
  refine aw_draw (by decide) (fun _ _ _ h => h) ?_
  simp only [wkB, wkC, kernP, rd, rds, reduceIte, Nat.reduceEqDiff, Nat.reduceAdd, binop, intOp_mul, unop, shiftOp, strOp, isNil, fillElems, fillParts, elemZero, FQ, LeaveA, resA, resPV, resPVs, PV.fits, PV.flat, PV.leaf, Nat.reduceBEq, Nat.reduceLT, Nat.reduceLeDiff, Int.reduceLT, Int.reduceLE, Int.reduceToNat, vis_len, vis_take]
  refine nums_ok (n := 4) (A := A) (B := B) h1 (by simp [Mem.set, hib, h3]) h4 h5 (by decide) (h6.box hb) h8 ?_
  intro cs' μ' L' r1 r2 r3
  simp only [wkB, wkC, kernP, rd, rds, reduceIte, Nat.reduceEqDiff, Nat.reduceAdd, binop, intOp_mul, unop, shiftOp, strOp, isNil, fillElems, fillParts, elemZero, FQ, LeaveA, resA, resPV, resPVs, PV.fits, PV.flat, PV.leaf, Nat.reduceBEq, Nat.reduceLT, Nat.reduceLeDiff, Int.reduceLT, Int.reduceLE, Int.reduceToNat]
  exact ⟨_, rfl, hK _ _ _ r1 r2 (r3.box hb h6.ne)⟩

theorem ints_ok : VisOk (.list .int) 34 := by
  intro m k0 i off A cs B v v' ws ws' μ L K KP h1 h3 h4 h5 h6 h8 hK
  obtain ⟨tk, xs, rfl, hx⟩ := h5
  refine acall_of_aw mix fn34 (by simp) ?_
  unfold ac34
  have hfit := vis_fits m k0
  simp only [PV.fits, PV.flat] at hfit
  simp only [wkB, wkC, kernP, rd, rds, reduceIte, Nat.reduceEqDiff, Nat.reduceAdd, binop, intOp_mul, unop, shiftOp, strOp, isNil, fillElems, fillParts, elemZero, FQ, LeaveA, resA, resPV, resPVs, PV.fits, PV.flat, PV.leaf, Nat.reduceBEq, Nat.reduceLT, Nat.reduceLeDiff, Int.reduceLT, Int.reduceLE, Int.reduceToNat, hfit]
  intro b hb
  have hib : i ≠ b := fun e => by rw [e, hb.1] at h3; cases h3
  have hbk : b ≠ k0 := fun e => h6.ne (e ▸ hb.1)
  have e4 : (A ++ [PV.sl tk (Ty.size .int) xs] ++ B)[off]? = some (PV.sl tk (Ty.size .int) xs) := get_mid rfl h4
  generalize hC : A ++ [PV.sl tk (Ty.size .int) xs] ++ B = C at h3 e4
  refine aw_draw (by decide) (fun _ _ _ h => h) ?_
  simp only [wkB, wkC, kernP, rd, rds, reduceIte, Nat.reduceEqDiff, Nat.reduceAdd, binop, intOp_mul, unop, shiftOp, strOp, isNil, fillElems, fillParts, elemZero, FQ, LeaveA, resA, resPV, resPVs, PV.fits, PV.flat, PV.leaf, Nat.reduceBEq, Nat.reduceLT, Nat.reduceLeDiff, Int.reduceLT, Int.reduceLE, Int.reduceToNat, vis_len, vis_take, hib, h3, e4]
  refine list_ok (T := .int) (bs := [b]) (fn78.of_erase rfl) (fn145.of_erase rfl) (by decide) (ints1_ok m k0 b) (h6.box hb) (fun c hc => by simp at hc; subst hc; exact ⟨hbk, by simp [Mem.set]⟩) hx h8 ?_
  intro ys μ' L' r1 r2
  have g3 : μ' i = some (.cells C) := by rw [r2.fr i h1 (fun h => h) (by simp [Mem.set, hib, h3])]; simp [Mem.set, hib, h3]
  have e5 : off + 1 ≤ C.length := by rw [← hC]; simp; omega
  simp only [wkB, wkC, kernP, rd, rds, reduceIte, Nat.reduceEqDiff, Nat.reduceAdd, binop, intOp_mul, unop, shiftOp, strOp, isNil, fillElems, fillParts, elemZero, FQ, LeaveA, resA, resPV, resPVs, PV.fits, PV.flat, PV.leaf, Nat.reduceBEq, Nat.reduceLT, Nat.reduceLeDiff, Int.reduceLT, Int.reduceLE, Int.reduceToNat, g3, e5]
  refine ⟨_, rfl, hK [.sl .no _ ys] _ _ ⟨.no, ys, rfl, r1⟩ ?_ ((r2.putAt h1).box hb h6.ne)⟩
  rw [set_same, spl_mid' (n := 1) hC.symm h4 rfl]

theorem pairs_ok : VisOk (.list (Ty.nums 2)) 33 := by
  intro m k0 i off A cs B v v' ws ws' μ L K KP h1 h3 h4 h5 h6 h8 hK
  obtain ⟨tk, xs, rfl, hx⟩ := h5
  refine acall_of_aw mix fn33 (by simp) ?_
  unfold ac33
  have hfit := vis_fits m k0
  simp only [PV.fits, PV.flat] at hfit
  simp only [wkB, wkC, kernP, rd, rds, reduceIte, Nat.reduceEqDiff, Nat.reduceAdd, binop, intOp_mul, unop, shiftOp, strOp, isNil, fillElems, fillParts, elemZero, FQ, LeaveA, resA, resPV, resPVs, PV.fits, PV.flat, PV.leaf, Nat.reduceBEq, Nat.reduceLT, Nat.reduceLeDiff, Int.reduceLT, Int.reduceLE, Int.reduceToNat, hfit]
  intro b hb
  have hib : i ≠ b := fun e => by rw [e, hb.1] at h3; cases h3
  have hbk : b ≠ k0 := fun e => h6.ne (e ▸ hb.1)
  have e4 : (A ++ [PV.sl tk (Ty.size (Ty.nums 2)) xs] ++ B)[off]? = some (PV.sl tk (Ty.size (Ty.nums 2)) xs) := get_mid rfl h4
  generalize hC : A ++ [PV.sl tk (Ty.size (Ty.nums 2)) xs] ++ B = C at h3 e4
  refine aw_draw (by decide) (fun _ _ _ h => h) ?_
  simp only [wkB, wkC, kernP, rd, rds, reduceIte, Nat.reduceEqDiff, Nat.reduceAdd, binop, intOp_mul, unop, shiftOp, strOp, isNil, fillElems, fillParts, elemZero, FQ, LeaveA, resA, resPV, resPVs, PV.fits, PV.flat, PV.leaf, Nat.reduceBEq, Nat.reduceLT, Nat.reduceLeDiff, Int.reduceLT, Int.reduceLE, Int.reduceToNat, vis_len, vis_take, hib, h3, e4]
  refine list_ok (T := (Ty.nums 2)) (bs := [b]) (fn76.of_erase rfl) (fn144.of_erase rfl) (by decide) (box77_ok m k0 b) (h6.box hb) (fun c hc => by simp at hc; subst hc; exact ⟨hbk, by simp [Mem.set]⟩) hx h8 ?_
  intro ys μ' L' r1 r2
  have g3 : μ' i = some (.cells C) := by rw [r2.fr i h1 (fun h => h) (by simp [Mem.set, hib, h3])]; simp [Mem.set, hib, h3]
  have e5 : off + 1 ≤ C.length := by rw [← hC]; simp; omega
  simp only [wkB, wkC, kernP, rd, rds, reduceIte, Nat.reduceEqDiff, Nat.reduceAdd, binop, intOp_mul, unop, shiftOp, strOp, isNil, fillElems, fillParts, elemZero, FQ, LeaveA, resA, resPV, resPVs, PV.fits, PV.flat, PV.leaf, Nat.reduceBEq, Nat.reduceLT, Nat.reduceLeDiff, Int.reduceLT, Int.reduceLE, Int.reduceToNat, g3, e5]
  refine ⟨_, rfl, hK [.sl .no _ ys] _ _ ⟨.no, ys, rfl, r1⟩ ?_ ((r2.putAt h1).box hb h6.ne)⟩
  rw [set_same, spl_mid' (n := 1) hC.symm h4 rfl]

end Go.Bm
