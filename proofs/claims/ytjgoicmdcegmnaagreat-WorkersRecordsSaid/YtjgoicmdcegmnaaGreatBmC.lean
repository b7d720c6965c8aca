/- The machine: code, calls, and every order of a drawn region. -/
import Derived.Test.YtjgoicmdcegmnaaGreatBmB
import Derived.OrdersIn
import Derived.RangeFuncLeaves

set_option linter.unusedVariables false
set_option linter.unusedSimpArgs false

/- The second abstract machine: code and calls; what it says of code. -/
namespace Go.Bm
open Go

structure ROp where
  dst : Option Nat
  guard : Option (Option Nat × Bool)
  ao : AOp
  pre : List Nat
  deriving Inhabited

def ROp.erase (r : ROp) : ROp := { r with ao := r.ao.erase }

inductive ACode where
  | skip
  | reg (draw : Bool) (ops : List ROp)
  | regp (ord : List Nat) (ops : List ROp)
  | seq (x y : ACode)
  | gseq (x y : ACode)
  | cond (c : AX) (x y : ACode)
  | block (id : Nat) (x : ACode)
  | loop (x : ACode)
  | rangeF (nt : Nat) (f : AX) (ps : List Nat) (x y : ACode) (ca cb : Code)
  | exit (id : Nat)
  | ret
  deriving Inhabited

/-- A chosen order's operations, in the order of the text. -/
def textOrd (ord : List Nat) (ops : List ROp) : List ROp := (List.range ops.length).map fun i => ops.getD (ord.idxOf i) default

/-- The same without the places at which a state may be seen otherwise. -/
def ACode.erase : ACode → ACode
  | .seq x y => .seq x.erase y.erase
  | .gseq x y => .seq x.erase y.erase
  | .cond c x y => .cond c x.erase y.erase
  | .block id x => .block id x.erase
  | .loop x => .loop x.erase
  | .rangeF nt f ps x y ca cb => .rangeF nt f ps x.erase y.erase ca cb
  | .regp ord ops => .reg true ((textOrd ord ops).map ROp.erase)
  | .reg d ops => .reg d (ops.map ROp.erase)
  | c => c

inductive AEx where
  | normal
  | exit (k : Nat)
  | ret
  | pan (v : PV)

def okTmp (nt : Nat) : Operand → Bool
  | .tmp n => Nat.blt n nt
  | _ => true

def okOper (nt : Nat) (o : Oper) : Bool :=
  o.op.operands.toList.all (okTmp nt) && (match o.dst with
    | some d => Nat.blt d nt
    | none => true)

def guardT (ops : Array Oper) (g : Option (Nat × Bool)) : Option (Option Nat × Bool) :=
  g.map fun g => ((ops[g.1]?).bind (·.dst), g.2)

/-- What must have been done before. -/
def edgesOf (o : Oper) : List Nat := (o.after.toList.filter (Region.binds .any)).map (·.on)

/-- Each number once. -/
def dd : List Nat → List Nat
  | [] => []
  | x :: xs => if xs.contains x then dd xs else x :: dd xs

theorem mem_dd {y : Nat} : ∀ {xs : List Nat}, y ∈ dd xs ↔ y ∈ xs
  | [] => Iff.rfl
  | x :: xs => by
    simp only [dd]
    split
    · rename_i h
      rw [mem_dd]
      simp only [List.contains_iff_mem] at h
      constructor
      · exact fun hy => List.mem_cons_of_mem _ hy
      · intro hy
        rcases List.mem_cons.1 hy with rfl | hy
        · exact h
        · exact hy
    · rw [List.mem_cons, List.mem_cons, mem_dd]

def closeL (acc : List (List Nat)) (l : List Nat) : List Nat := dd (l ++ l.flatMap fun q => acc.getD q [])

def resolveOp (P : Program) (nt : Nat) (ops : Array Oper) (pre : List Nat) (o : Oper) : Option ROp :=
  if okOper nt o then
    match resolve P o with
    | some ao => some ⟨o.dst, guardT ops o.guard, ao, pre⟩
    | none => some ⟨o.dst, guardT ops o.guard, .stuck, pre⟩
  else none

def resolveOps (P : Program) (nt : Nat) (ops : Array Oper) (draw : Bool) : List (List Nat) → List Oper → Option (List ROp)
  | _, [] => some []
  | acc, o :: os => match resolveOp P nt ops (if draw then closeL acc (edgesOf o) else []) o, resolveOps P nt ops draw (acc ++ [if draw then closeL acc (edgesOf o) else []]) os with
    | some r, some rs => some (r :: rs)
    | _, _ => none

def resolveCode (P : Program) (nt : Nat) : Code → Option ACode
  | .skip => some .skip
  | .label _ => some .skip
  | .region _ ops draw => match resolveOps P nt ops draw [] ops.toList with
    | some rs => some (.reg draw rs)
    | none => none
  | .seq x y => match resolveCode P nt x, resolveCode P nt y with
    | some a, some b => some (.seq a b)
    | _, _ => none
  | .cond c x y => if okTmp nt c then match ax0 P c, resolveCode P nt x, resolveCode P nt y with
    | some k, some a, some b => some (.cond k a b)
    | _, _, _ => none
    else none
  | .block id x => match resolveCode P nt x with
    | some a => some (.block id a)
    | none => none
  | .loop x => match resolveCode P nt x with
    | some a => some (.loop a)
    | none => none
  | .rangeFunc f ps x y => if okTmp nt f && ps.toList.all (fun p => Nat.blt p nt) then match ax0 P f, resolveCode P nt x, resolveCode P nt y with
    | some k, some a, some b => some (.rangeF nt k ps.toList a b x y)
    | _, _, _ => none
    else none
  | .exit id => some (.exit id)
  | .ret => some .ret
  | _ => none

/-! ### Calls -/

/-- How a call ends: with a result, or with a panic of one value. -/
def EndR (G : Gh) (w : World) (K KP : KA) : Ending → World → Prop
  | .returned v, w' => ∃ G' r μ' L', RV G' w' v r ∧ Rel G' μ' L' w' ∧ Evo G w G' w' ∧ K r μ' L'
  | .panicked chain, w' => ∃ G' v r μ' L', chain = [{ v := v, recovered := false }] ∧ RV G' w' v r ∧ Rel G' μ' L' w' ∧ Evo G w G' w' ∧ KP r μ' L'
  | .outgrown, _ => False

def fnOk (P : Program) (f : FuncId) : Prop := ∃ fn, P.funcs[f]? = some fn ∧ (fn.name == "runtime.NumGoroutine") = false ∧ fn.body.isSome = true

/-- A function that is called with these values and objects ends so. -/
def ACall (P : Program) (f : FuncId) (args : List PV) (μ : Mem) (L : Lv) (K KP : KA) : Prop :=
  fnOk P f ∧ ∀ (G : Gh) (w : World) (vals : Array Value), vals.size = args.length → (∀ (k : Nat) u y, vals[k]? = some u → args[k]? = some y → RV G w u y) → Rel G μ L w → Calls P f vals w (EndR G w K KP)

theorem EndR.mono {G : Gh} {w : World} {K K' KP KP' : KA} (h : ∀ v μ L, K v μ L → K' v μ L) (h' : ∀ v μ L, KP v μ L → KP' v μ L) {e : Ending} {w' : World} (he : EndR G w K KP e w') : EndR G w K' KP' e w' := by
  cases e with
  | returned v => obtain ⟨G', r, μ', L', h1, h2, h3, h4⟩ := he; exact ⟨G', r, μ', L', h1, h2, h3, h _ _ _ h4⟩
  | panicked chain => obtain ⟨G', v, r, μ', L', h0, h1, h2, h3, h4⟩ := he; exact ⟨G', v, r, μ', L', h0, h1, h2, h3, h' _ _ _ h4⟩
  | outgrown => exact he

theorem ACall.mono {P : Program} {f : FuncId} {args : List PV} {μ : Mem} {L : Lv} {K K' KP KP' : KA} (hc : ACall P f args μ L K KP) (h : ∀ v μ L, K v μ L → K' v μ L) (h' : ∀ v μ L, KP v μ L → KP' v μ L) : ACall P f args μ L K' KP' :=
  ⟨hc.1, fun G w vals h1 h2 h3 => Calls.mono (hc.2 G w vals h1 h2 h3) fun _ _ he => he.mono h h'⟩

/-- No fence; a round's frame, or a plain one. -/
abbrev FW (ro : Option Nat) : Fence := { Fence.wide with round := ro }

/-- The body of a range over a function does one round so. -/
def AYield (P : Program) (i : Nat) (xs : List PV) (μ : Mem) (L : Lv) (K : KA) : Prop :=
  ∀ (G : Gh) (w : World) (vals : Array Value), vals.size = xs.length → Pts G w vals xs → Rel G μ L w → ∃ b s, G.loc i = some (b, s) ∧ ∃ fn tmps ca cb,
    (Instr.yield b vals).run P w = .ok (.round b fn tmps ca cb) w ∧ RoundIn (FW none) 0 P b fn tmps ca cb w (EndR G w K (fun _ _ _ => False))

/-- A value of a function is called. -/
def callA (P : Program) (f : PV) (args : List PV) (μ : Mem) (L : Lv) (K KP : KA) : Prop :=
  match f with
  | .fn fid first cap => ACall P fid (first ++ args ++ cap) μ L K KP
  | .yld i => AYield P i args μ L K
  | _ => False

theorem callA_mono {P : Program} {f : PV} {args : List PV} {μ : Mem} {L : Lv} {K K' KP KP' : KA} (hc : callA P f args μ L K KP) (h : ∀ v μ L, K v μ L → K' v μ L) (h' : ∀ v μ L, KP v μ L → KP' v μ L) : callA P f args μ L K' KP' := by
  unfold callA at hc ⊢
  split at hc
  · exact hc.mono h h'
  · intro G w vals h1 h2 h3
    obtain ⟨b, s, q1, fn, tmps, ca, cb, q2, q3⟩ := hc G w vals h1 h2 h3
    exact ⟨b, s, q1, fn, tmps, ca, cb, q2, q3.mono fun _ _ he => he.mono h (fun _ _ _ hf => hf)⟩
  · exact hc

/-! ### What code does -/

/-- Whether a guarded operation is wanted. -/
def guardA (t : Regs) : Option (Option Nat × Bool) → Option Bool
  | none => some true
  | some (none, _) => some false
  | some (some n, want) => match t n with
    | .bool b => some (b == want)
    | .tup [] => some false
    | _ => none

def St.put (σ : St) (d : Option Nat) (v : PV) : St :=
  match d with
  | some d => { σ with t := upd σ.t d v }
  | none => σ

/-- One operation. -/
def stepA (P : Program) (r : ROp) (K : St → Prop) (KP : PV → St → Prop) (σ : St) : Prop :=
  match guardA σ.t r.guard with
  | none => False
  | some false => K (σ.put r.dst (.tup []))
  | some true => match r.ao with
    | .call f args => callA P (rd σ.t f) (rds σ.t args) σ.μ σ.L (fun v μ L => K (St.put { σ with μ := μ, L := L } r.dst v)) (fun p μ L => KP p { σ with μ := μ, L := L })
    | .pan x => match rd σ.t x with
      | .iface t v => KP (.iface t v) σ
      | _ => False
    | .dfr f args => match rd σ.t f with
      | .fn fid first cap => K (St.put { σ with df := .call fid (first ++ rds σ.t args) cap :: σ.df } r.dst (.tup []))
      | _ => False
    | ao => opM ao σ.t σ.μ σ.L fun v μ L => K (St.put { σ with μ := μ, L := L } r.dst v)

/-- Operations in the order of the text. -/
def runA (P : Program) : List ROp → (St → Prop) → (PV → St → Prop) → St → Prop
  | [], K, _, σ => K σ
  | r :: rs, K, KP, σ => stepA P r (runA P rs K KP) KP σ

def AX.regs : AX → List Nat
  | .t n => [n]
  | .k _ => []

def axo_regs : Option AX → List Nat
  | some x => x.regs
  | none => []

/-- The slots that an operation reads. -/
def AOp.regs : AOp → List Nat
  | .mv x | .box _ x | .load _ x | .nilck x | .isnil _ _ x | .isnils _ x | .un _ x | .conv _ x | .b2s x | .mkif _ x | .fbox _ x | .faddr x _ | .fld x _ _ | .extr x _ | .len x | .slen x | .mlen x | .rangem x | .nextm x | .pan x | .tass _ _ x => x.regs
  | .pick a b c => a.regs ++ b.regs ++ c.regs
  | .alloc _ | .mkmap | .rcv | .stuck => []
  | .build _ ps => ps.flatMap fun p => p.2.2.regs
  | .bslice _ _ _ _ ps => ps.flatMap fun p => p.2.regs
  | .store _ x y | .bin _ x y | .binb _ x y | .eqs _ _ x y | .mkslice _ _ _ _ x y | .iaddr _ x y | .idx _ _ _ x y | .sidx x y | .append _ _ x y | .mnx _ x y => x.regs ++ y.regs
  | .mkfn _ a b => a.flatMap AX.regs ++ b.flatMap AX.regs
  | .slice _ x a b c => x.regs ++ axo_regs a ++ axo_regs b ++ axo_regs c
  | .sstr x a b => x.regs ++ axo_regs a ++ axo_regs b
  | .call f args | .dfr f args => f.regs ++ args.flatMap AX.regs

def ROp.regs (r : ROp) : List Nat := r.ao.regs ++ match r.guard with
  | some (some n, _) => [n]
  | _ => []

/-- What an operation may do: 0: it only moves; 1: it only looks at slots; 2: it reads the memory; 3: anything. -/
def AOp.cls : AOp → Nat
  | .mv _ | .mkfn .. | .mkif .. => 0
  | .pick .. | .fbox .. | .build .. | .nilck _ | .bin .. | .binb .. | .isnil .. | .eqs .. | .un .. | .conv .. | .slice .. | .sstr .. | .faddr .. | .iaddr .. | .fld .. | .idx .. | .sidx .. | .extr .. | .len _ | .slen _ | .mnx .. | .tass .. | .bslice .. => 1
  | .load .. => 2
  | _ => 3

def ROp.cls (r : ROp) : Nat := match r.guard with
  | none => r.ao.cls
  | some _ => max 1 r.ao.cls

/-- Two operations of which neither must come before the other may change places. -/
def okPair (a b : ROp) : Bool :=
  (match a.dst with
    | some d => !b.regs.contains d && b.dst != some d
    | none => true) &&
  (match b.dst with
    | some d => !a.regs.contains d
    | none => true) &&
  ((Nat.ble a.cls 2 && Nat.ble b.cls 2) || Nat.ble a.cls 1 || b.cls == 0)

def okFrom (i : Nat) (r : ROp) : Nat → List ROp → Bool
  | _, [] => true
  | k, a :: as => (r.pre.contains k || okPair a r) && okFrom i r (k + 1) as

/-- Every order that keeps the edges does the same. -/
def okRegion : List ROp → List ROp → Bool
  | _, [] => true
  | done, r :: rs => (okFrom done.length r 0 done && r.pre.all fun p => Nat.blt p done.length) && okRegion (done ++ [r]) rs

def isAllocR (r : ROp) : Bool := r.guard.isNone && match r.ao with
  | .alloc (_ :: _) => true
  | _ => false

def isStoreR (r : ROp) : Bool := match r.ao with
  | .store .. => true
  | _ => false

def isCallR (r : ROp) : Bool := match r.ao with
  | .call _ _ => true
  | _ => false

/-- In a chosen order; in it, loads stand before what may write elsewhere. -/
def okPairW (a b : ROp) : Bool :=
  (match a.dst with
    | some d => !b.regs.contains d && b.dst != some d
    | none => true) &&
  (match b.dst with
    | some d => !a.regs.contains d
    | none => true) &&
  (Nat.ble a.cls 1 || (Nat.ble a.cls 2 && !isStoreR b) || b.cls == 0 || (isAllocR b && (isCallR a || isAllocR a)))

def okAt (ops : List ROp) (done : List Nat) (i : Nat) : Bool :=
  match ops[i]? with
  | none => false
  | some r => (done.all fun k => r.pre.contains k || match ops[k]? with
      | some a => okPairW a r
      | none => false) && r.pre.all (fun p => done.contains p && Nat.blt p i) && !done.contains i

def okOrdFrom (ops : List ROp) : List Nat → List Nat → Bool
  | _, [] => true
  | done, i :: rest => okAt ops done i && okOrdFrom ops (done ++ [i]) rest

/-- Every order that keeps the edges does what this one does. -/
def okOrd (ops : List ROp) (ord : List Nat) : Bool :=
  okOrdFrom ops [] ord && (List.range ops.length).all fun i => ord.contains i

def okOrdP (ord : List Nat) (ops : List ROp) : Bool := Nat.beq ord.length ops.length && okOrd (textOrd ord ops) ord

/-- What is loaded is frozen, or is one of the objects that are watched. -/
def watA (W : Nat → Prop) : AOp → Regs → Prop
  | .load _ x, t => match rd t x with
    | .fpp _ => True
    | .ptr i _ => W i
    | _ => False
  | _, _ => True

/-- Objects that are watched stay. -/
def Stay (W : Nat → Prop) (μ μ' : Mem) : Prop := ∀ i, W i → μ i ≠ none → μ' i = μ i

/-- They stay but where one stores. -/
def StayR (r : ROp) (W : Nat → Prop) (μ μ' : Mem) : Prop := isStoreR r = true ∨ Stay W μ μ'

/-- An operation; the objects that are watched stay. -/
def stepV (P : Program) (W : Nat → Prop) (r : ROp) (K : St → Prop) (KP : PV → St → Prop) (σ : St) : Prop :=
  (guardA σ.t r.guard = some true → watA W r.ao σ.t) ∧ stepA P r (fun σ' => StayR r W σ.μ σ'.μ ∧ K σ') KP σ

def runV (P : Program) (W : Nat → Prop) : List ROp → (St → Prop) → (PV → St → Prop) → St → Prop
  | [], K, _, σ => K σ
  | r :: rs, K, KP, σ => stepV P W r (runV P W rs K KP) KP σ

/-- What is asked of panics does not hang on the slots. -/
def TI (KP : PV → St → Prop) : Prop := ∀ p σ t, KP p σ → KP p { σ with t := t }

def DfrR (G : Gh) (w : World) (d : Dfr) (x : Deferred) : Prop :=
  match d with
  | .call f args cap => ∃ cv : Array Value, x.target = .fn (.func f) cv ∧ cv.size = cap.length ∧ Pts G w cv cap ∧ x.args.size = args.length ∧ Pts G w x.args args
  | .coll d => ∃ b s, G.loc d = some (b, s) ∧ x.target = .collected b

def DfrsR (G : Gh) (w : World) : List Dfr → List Deferred → Prop
  | [], [] => True
  | d :: ds, x :: xs => DfrR G w d x ∧ DfrsR G w ds xs
  | _, _ => False

theorem DfrsR.evo {G G' : Gh} {w w' : World} (e : Evo G w G' w') : ∀ {ds : List Dfr} {xs : List Deferred}, DfrsR G w ds xs → DfrsR G' w' ds xs
  | [], [], _ => trivial
  | _ :: _, _ :: _, h => ⟨by
      have h1 := h.1
      unfold DfrR at h1 ⊢
      split at h1
      · obtain ⟨cv, h1, h2, h3, h4, h5⟩ := h1; exact ⟨cv, h1, h2, h3.evo e, h4, h5.evo e⟩
      · obtain ⟨b, s, h1, h2⟩ := h1; exact ⟨b, s, e.loc _ _ h1, h2⟩, DfrsR.evo e h.2⟩
  | [], _ :: _, h => h.elim
  | _ :: _, [], h => h.elim

/-- A state means a frame and a world. -/
structure Mean (nt : Nat) (G : Gh) (σ : St) (a : Act) (w : World) : Prop where
  size : a.tmps.size = nt
  df : DfrsR G w σ.df a.defers
  fr : FR G w σ.t a.tmps
  rel : Rel G σ.μ σ.L w

/-- Whatever means the state means one of the others, too. -/
def GhoS (σ : St) (S : St → Prop) : Prop := ∀ nt G a w, Mean nt G σ a w → ∃ σ' G', S σ' ∧ Mean nt G' σ' a w ∧ Evo G w G' w

/-- The loop's variables get what is yielded. -/
def setPs (t : Regs) : List Nat → List PV → Regs
  | p :: ps, x :: xs => setPs (upd t p x) ps xs
  | _, _ => t

def AW (P : Program) : ACode → (AEx → St → Prop) → St → Prop
  | .skip, Q, σ => Q .normal σ
  | .reg false ops, Q, σ => runA P ops (Q .normal) (fun p => Q (.pan p)) σ
  | .reg true ops, Q, σ => okRegion [] ops = true ∧ TI (fun p => Q (.pan p)) ∧ runA P ops (Q .normal) (fun p => Q (.pan p)) σ
  | .regp ord ops, Q, σ => okOrdP ord ops = true ∧ TI (fun p => Q (.pan p)) ∧ ∃ W, runV P W ops (Q .normal) (fun p => Q (.pan p)) σ
  | .seq x y, Q, σ => AW P x (fun e σ' => match e with
    | .normal => AW P y Q σ'
    | e => Q e σ') σ
  | .gseq x y, Q, σ => AW P x (fun e σ' => match e with
    | .normal => ∃ S, GhoS σ' S ∧ ∀ σ'', S σ'' → AW P y Q σ''
    | e => Q e σ') σ
  | .cond c x y, Q, σ => match rd σ.t c with
    | .bool b => (b = true → AW P x Q σ) ∧ (b = false → AW P y Q σ)
    | _ => False
  | .block id x, Q, σ => AW P x (fun e σ' => match e with
    | .exit k => if k = id then Q .normal σ' else Q (.exit k) σ'
    | e => Q e σ') σ
  | .loop x, Q, σ => ∃ I : Nat → St → Prop, (∃ n, I n σ) ∧ ∀ n σ', I n σ' → AW P x (fun e σ'' => match e with
    | .normal => ∃ m, m < n ∧ I m σ''
    | e => Q e σ'') σ'
  | .rangeF nt f ps _ _ ca cb, Q, σ => match rd σ.t f with
    | .fn fid first cap => ∀ i d, Fresh σ.μ σ.L i → Fresh σ.μ σ.L d → i ≠ d →
      ACall P fid (first ++ [.yld i] ++ cap) ((σ.μ.set d .dq).set i (.lp false ⟨nt, σ.t, ps, ca, cb, d⟩)) σ.L
        (fun _ μ' L' => μ' i = some (.lp false ⟨nt, σ.t, ps, ca, cb, d⟩) ∧ Q .normal ⟨σ.t, μ'.del i, L', .coll d :: σ.df⟩) (fun _ _ _ => False)
    | _ => False
  | .exit id, Q, σ => Q (.exit id) σ
  | .ret, Q, σ => Q .ret σ

/-! ### More is asked of less -/

theorem opM_mono {ao : AOp} {t : Regs} {μ : Mem} {L : Lv} {K K' : KA} (h : ∀ v μ L, K v μ L → K' v μ L) (hk : opM ao t μ L K) : opM ao t μ L K' := by
  cases ao <;> simp only [opM] at hk ⊢
  case alloc => exact fun i hi => h _ _ _ (hk i hi)
  case box => exact ⟨hk.1, fun i hi => h _ _ _ (hk.2 i hi)⟩
  case load =>
    split at hk
    · obtain ⟨cs, v, h1, h2, h3⟩ := hk; exact ⟨cs, v, h1, h2, h _ _ _ h3⟩
    · obtain ⟨v, h2, h3⟩ := hk; exact ⟨v, h2, h _ _ _ h3⟩
    · exact hk
  case store =>
    refine ⟨hk.1, ?_⟩
    have hk2 := hk.2
    split at hk2
    · obtain ⟨cs, h1, h2, h3⟩ := hk2; exact ⟨cs, h1, h2, h _ _ _ h3⟩
    · exact hk2
  case isnils =>
    split at hk
    · exact fun b hb => h _ _ _ (hk b hb)
    · exact fun b hb => h _ _ _ (hk b hb)
    · exact hk
  case b2s => obtain ⟨ys, bs, h1, h2, h3⟩ := hk; exact ⟨ys, bs, h1, h2, h _ _ _ h3⟩
  case mkslice =>
    split at hk
    · exact ⟨hk.1, hk.2.1, hk.2.2.1, fun i hi => h _ _ _ (hk.2.2.2 i hi)⟩
    · exact hk
  case mkmap => exact fun i hi => h _ _ _ (hk i hi)
  case mlen =>
    split at hk
    · obtain ⟨es, h1, h2⟩ := hk; exact ⟨es, h1, h _ _ _ h2⟩
    · exact h _ _ _ hk
    · exact hk
  case rangem =>
    split at hk
    · exact ⟨hk.1, fun j hj => h _ _ _ (hk.2 j hj)⟩
    · exact hk
  case nextm =>
    split at hk
    · obtain ⟨h0, i, h1, h2, h3⟩ := hk; exact ⟨h0, i, h1, h2, h _ _ _ h3⟩
    · exact hk
  case append =>
    obtain ⟨ys, h1, hk⟩ := hk
    refine ⟨ys, h1, ?_⟩
    split at hk
    · refine ⟨hk.1, hk.2.1, hk.2.2.imp (fun hh => ⟨hh.1, fun b hb => h _ _ _ (hh.2 b hb)⟩) (fun hh => ⟨hh.1, hh.2.1, fun b hb => h _ _ _ (hh.2.2 b hb)⟩)⟩
    · obtain ⟨q1, q2, q3, cs, q4, q5, q6⟩ := hk
      exact ⟨q1, q2, q3, cs, q4, q5, fun j hj => h _ _ _ (q6 j hj)⟩
    · exact hk
  all_goals
    split at hk
    · exact h _ _ _ hk
    · exact hk

theorem stepA_mono {P : Program} {r : ROp} {K K' : St → Prop} {KP KP' : PV → St → Prop} {σ : St} (h : ∀ σ, K σ → K' σ) (h' : ∀ p σ, KP p σ → KP' p σ) (hk : stepA P r K KP σ) : stepA P r K' KP' σ := by
  unfold stepA at hk ⊢
  split at hk
  · exact hk
  · exact h _ hk
  · split at hk
    · exact callA_mono hk (fun _ _ _ => h _) (fun _ _ _ => h' _ _)
    · split at hk
      · exact h' _ _ hk
      · exact hk
    · split at hk
      · exact h _ hk
      · exact hk
    · exact opM_mono (fun _ _ _ => h _) hk

theorem runA_mono {P : Program} {KP KP' : PV → St → Prop} (h' : ∀ p σ, KP p σ → KP' p σ) : ∀ {rs : List ROp} {K K' : St → Prop} {σ : St}, (∀ σ, K σ → K' σ) → runA P rs K KP σ → runA P rs K' KP' σ
  | [], K, K', σ, h, hr => h σ hr
  | r :: rs, K, K', σ, h, hr => stepA_mono (fun _ => runA_mono h' h) h' hr

theorem runV_mono {P : Program} {W : Nat → Prop} {KP KP' : PV → St → Prop} (h' : ∀ p σ, KP p σ → KP' p σ) : ∀ {rs : List ROp} {K K' : St → Prop} {σ : St}, (∀ σ, K σ → K' σ) → runV P W rs K KP σ → runV P W rs K' KP' σ
  | [], K, K', σ, h, hr => h σ hr
  | r :: rs, K, K', σ, h, hr => ⟨hr.1, stepA_mono (fun _ hh => ⟨hh.1, runV_mono h' h hh.2⟩) h' hr.2⟩

theorem AW_mono {P : Program} : ∀ {c : ACode} {Q Q' : AEx → St → Prop} {σ : St}, (∀ e σ, Q e σ → Q' e σ) → (TI (fun p => Q (.pan p)) → TI (fun p => Q' (.pan p))) → AW P c Q σ → AW P c Q' σ
  | .skip, Q, Q', σ, h, _, hw => h _ _ hw
  | .reg false ops, Q, Q', σ, h, _, hw => runA_mono (fun _ => h _) (fun _ => h _ _) hw
  | .reg true ops, Q, Q', σ, h, ht, hw => ⟨hw.1, ht hw.2.1, runA_mono (fun _ => h _) (fun _ => h _ _) hw.2.2⟩
  | .regp ord ops, Q, Q', σ, h, ht, hw => by
    simp only [AW] at hw ⊢
    obtain ⟨h1, h2, W, h3⟩ := hw
    exact ⟨h1, ht h2, W, runV_mono (fun _ => h _) (h _) h3⟩
  | .seq x y, Q, Q', σ, h, ht, hw => by
    simp only [AW] at hw ⊢
    refine AW_mono ?_ ?_ hw
    · intro e σ hq
      cases e with
      | normal => exact AW_mono h ht hq
      | _ => exact h _ _ hq
    · exact ht
  | .gseq x y, Q, Q', σ, h, ht, hw => by
    simp only [AW] at hw ⊢
    refine AW_mono ?_ ?_ hw
    · intro e σ hq
      cases e with
      | normal => obtain ⟨S, h1, h2⟩ := hq; exact ⟨S, h1, fun σ'' hs => AW_mono h ht (h2 σ'' hs)⟩
      | _ => exact h _ _ hq
    · exact ht
  | .cond c x y, Q, Q', σ, h, ht, hw => by
    simp only [AW] at hw ⊢
    split at hw
    · exact ⟨fun hb => AW_mono h ht (hw.1 hb), fun hb => AW_mono h ht (hw.2 hb)⟩
    · exact hw
  | .block id x, Q, Q', σ, h, ht, hw => by
    simp only [AW] at hw ⊢
    refine AW_mono ?_ ?_ hw
    · intro e σ hq
      cases e with
      | exit k => 
        simp only at hq ⊢
        split at hq
        · rename_i hk; rw [if_pos hk]; exact h _ _ hq
        · rename_i hk; rw [if_neg hk]; exact h _ _ hq
      | _ => exact h _ _ hq
    · exact ht
  | .loop x, Q, Q', σ, h, ht, hw => by
    simp only [AW] at hw ⊢
    obtain ⟨I, h1, h2⟩ := hw
    refine ⟨I, h1, fun n σ' hI => AW_mono ?_ ?_ (h2 n σ' hI)⟩
    · intro e σ hq
      cases e with
      | normal => exact hq
      | _ => exact h _ _ hq
    · exact ht
  | .rangeF nt f ps x y ca cb, Q, Q', σ, h, _, hw => by
    simp only [AW] at hw ⊢
    split at hw
    · exact fun i d h1 h2 h3 => (hw i d h1 h2 h3).mono (fun _ _ _ q => ⟨q.1, h _ _ q.2⟩) (fun _ _ _ q => q)
    · exact hw
  | .exit id, Q, Q', σ, h, _, hw => h _ _ hw
  | .ret, Q, Q', σ, h, _, hw => h _ _ hw

end Go.Bm

/- The second abstract machine: one operation does what it says. -/
namespace Go.Bm
open Go

def Holds (nt : Nat) (G0 : Gh) (w0 : World) (K : St → Prop) (a : Act) (w : World) : Prop :=
  ∃ σ G, K σ ∧ Mean nt G σ a w ∧ Evo G0 w0 G w

def HoldsP (nt : Nat) (G0 : Gh) (w0 : World) (KP : PV → St → Prop) (chain : List PanicEntry) (a : Act) (w : World) : Prop :=
  ∃ σ G v p, chain = [{ v := v, recovered := false }] ∧ KP p σ ∧ RV G w v p ∧ Mean nt G σ a w ∧ Evo G0 w0 G w

section
variable {P : Program} {nt : Nat}

theorem Holds.base {G0 G : Gh} {w0 w : World} {K : St → Prop} (h : Evo G0 w0 G w) {a' : Act} {w' : World} (hh : Holds nt G w K a' w') : Holds nt G0 w0 K a' w' := by
  obtain ⟨σ, G', h1, h2, h3⟩ := hh
  exact ⟨σ, G', h1, h2, h.trans h3⟩

theorem HoldsP.base {G0 G : Gh} {w0 w : World} {KP : PV → St → Prop} (h : Evo G0 w0 G w) {ch : List PanicEntry} {a' : Act} {w' : World} (hh : HoldsP nt G w KP ch a' w') : HoldsP nt G0 w0 KP ch a' w' := by
  obtain ⟨σ, G', v, p, h0, h1, h2, h3, h4⟩ := hh
  exact ⟨σ, G', v, p, h0, h1, h2, h3, h.trans h4⟩

theorem put_size (a : Act) (d : Option Nat) (v : Value) : (a.put d v).tmps.size = a.tmps.size := by
  cases d <;> simp [Act.put]

theorem put_defers' (a : Act) (d : Option Nat) (v : Value) : (a.put d v).defers = a.defers := by cases d <;> rfl

theorem Mean.put {G G' : Gh} {σ : St} {a : Act} {w w' : World} (h : Mean nt G σ a w) (hev : Evo G w G' w') {μ' : Mem} {L' : Lv} (hr : Rel G' μ' L' w') {d : Option Nat} {v : Value} {x : PV} (hd : ∀ n, d = some n → n < nt) (hv : RV G' w' v x) :
    Mean nt G' (St.put { σ with μ := μ', L := L' } d x) (a.put d v) w' := by
  cases d with
  | none => exact ⟨by rw [put_size]; exact h.size, by rw [put_defers']; exact h.df.evo hev, h.fr.evo hev, hr⟩
  | some n =>
    refine ⟨by rw [put_size]; exact h.size, by rw [put_defers']; exact h.df.evo hev, ?_, hr⟩
    exact (h.fr.evo hev).set (by rw [h.size]; exact hd n rfl) hv

theorem okOper_dst {o : Oper} (hok : okOper nt o = true) : ∀ d, o.dst = some d → d < nt := by
  intro d hd
  simp only [okOper, Bool.and_eq_true, hd] at hok
  have h2 := hok.2
  rw [Nat.blt_eq] at h2
  exact h2

/-- A guarded operation is wanted as the state says. -/
theorem guard_spec {ops : Array Oper} {o : Oper} {a : Act} {σ : St} {G : Gh} {w : World} {b : Bool} (h : FR G w σ.t a.tmps) (hb : guardA σ.t (guardT ops o.guard) = some b) : Region.wanted o (yielded ops a.tmps) = b := by
  unfold Region.wanted
  cases hgu : o.guard with
  | none => rw [hgu] at hb; simpa [guardT, guardA] using hb
  | some gw =>
    obtain ⟨j, want⟩ := gw
    rw [hgu] at hb
    simp only [guardT, Option.map_some] at hb
    simp only [yielded]
    cases ht : (ops[j]?).bind (·.dst) with
    | none =>
      rw [ht] at hb
      simp [guardA] at hb
      subst hb
      simp
    | some t =>
      rw [ht] at hb
      have hv := h t
      rw [Array.getD_eq_getD_getElem?] at hv
      simp only [guardA] at hb
      split at hb
      · rename_i b' hs
        rw [hs] at hv
        simp only [Option.some.injEq] at hb
        cases he : a.tmps[t]? with
        | none => rw [he] at hv; cases hv
        | some v =>
          rw [he] at hv
          have : v = .bool b' := RV.bool_inv hv
          subst this
          simp only [Option.bind_some]
          subst hb
          cases b' <;> cases want <;> simp [he]
      · rename_i hs
        rw [hs] at hv
        simp only [Option.some.injEq] at hb
        subst hb
        simp only [Option.bind_some]
        cases he : a.tmps[t]? with
        | none => simp
        | some v => rw [he] at hv; cases hv; simp
      · cases hb

theorem run_call {o : Oper} {c : Call} {fo : Operand} {a : Act} {w : World} {fid : FuncId} {first cap : Array Value} {fn : Func} (ho : o.op = .call c) (hc : c.callee = .value fo) (hf : a.eval fo = .func (.func fid) first cap) (h1 : P.funcs[fid]? = some fn) (h2 : (fn.name == "runtime.NumGoroutine") = false) (h3 : fn.body.isSome = true) :
    (execOp a.eval o).run P w = .ok (.enter fid (first ++ c.args.map a.eval ++ cap)) w := by
  have h3' : ¬ fn.body = none := by cases hb : fn.body <;> simp_all
  have h2' : ¬ fn.name = "runtime.NumGoroutine" := by simpa using h2
  simp [execOp, ho, Go.resolve, hc, hf, Deferred.ofValue, invoke, callFunc, h1, h2', h3', Array.append_assoc]

theorem pts_concat {G : Gh} {w : World} {A B C : Array Value} {as bs cs : List PV} (h1 : A.size = as.length) (h2 : B.size = bs.length) (hA : Pts G w A as) (hB : Pts G w B bs) (hC : Pts G w C cs) : Pts G w (A ++ B ++ C) (as ++ bs ++ cs) := by
  intro k u y hu hy
  by_cases k1 : k < as.length
  · rw [List.append_assoc, List.getElem?_append_left k1] at hy
    rw [Array.append_assoc, Array.getElem?_append_left (by omega)] at hu
    exact hA k u y hu hy
  · by_cases k2 : k < as.length + bs.length
    · rw [List.append_assoc, List.getElem?_append_right (by omega), List.getElem?_append_left (by omega)] at hy
      rw [Array.append_assoc, Array.getElem?_append_right (by omega), Array.getElem?_append_left (by omega), h1] at hu
      exact hB _ u y hu hy
    · rw [List.getElem?_append_right (by simp; omega)] at hy
      rw [Array.getElem?_append_right (by simp; omega)] at hu
      have e : (A ++ B).size = (as ++ bs).length := by simp [h1, h2]
      rw [e] at hu
      exact hC _ u y hu hy

theorem opds_pts {a : Act} {G : Gh} {w : World} {tt : Regs} (h : FR G w tt a.tmps) {ts : List TypeId} {xs : Array Operand} {ys : List AX} (hx : axs P ts xs.toList = some ys) : (xs.map a.eval).size = (rds tt ys).length ∧ Pts G w (xs.map a.eval) (rds tt ys) := by
  obtain ⟨g1, g2⟩ := h.opds hx
  refine ⟨by simpa using g1, ?_⟩
  intro k u y hu hy
  simp only [Array.getElem?_map, Option.map_eq_some_iff] at hu
  obtain ⟨z, hz, rfl⟩ := hu
  exact g2 k z y (by simpa using hz) hy

theorem step_sound {ro : Option Nat} {ops : Array Oper} {o : Oper} {r : ROp} {i : Nat} {pre : List Nat} {K : St → Prop} {KP : PV → St → Prop} {Q : Exit → Act → World → Prop} {σ : St} {G : Gh} {a : Act} {w : World} (hi : ops[i]? = some o) (hr : resolveOp P nt ops pre o = some r.erase)
    (hs : stepA P r K KP σ) (hm : Mean nt G σ a w) (hQ : ∀ chain a' w', HoldsP nt G w KP chain a' w' → Q (.panic chain) a' w') (hd : ro = none ∨ ∀ c, o.op ≠ .defer c) : wpOpIn (FW ro) 0 P ops Q i (Holds nt G w K) a w := by
  have hsem : Oper.semAt ro a.eval o = execOp a.eval o := by
    rcases hd with rfl | h
    · rfl
    · exact Oper.semAt_eq _ _ _ h
  unfold resolveOp at hr
  split at hr
  · rename_i hok
    split at hr
    · rename_i ao0 hao
      obtain ⟨rdst, rguard, ao, rpre⟩ := r
      simp only [ROp.erase, Option.some.injEq, ROp.mk.injEq] at hr
      obtain ⟨rfl, rfl, rfl, rfl⟩ := hr
      unfold wpOpIn
      simp only [hi]
      unfold stepA at hs
      simp only at hs
      split at hs
      · exact hs.elim
      · rename_i hg
        rw [guard_spec hm.fr hg]
        simp only [Bool.false_eq_true, if_false]
        exact ⟨fun _ _ => trivial, _, G, hs, hm.put (Evo.refl _ _) hm.rel (okOper_dst hok) (.tup rfl (by simp)), Evo.refl _ _⟩
      · rename_i hg
        rw [guard_spec hm.fr hg]
        simp only [if_true]
        refine ⟨fun _ _ => trivial, ?_⟩
        show o.uponIn (FW ro) 0 P a _ Q ((Oper.semAt ro a.eval o).run P w)
        rw [hsem]
        split at hs
        · -- a call
          rename_i f args
          obtain ⟨c, fo, ho, hc, hf, ha⟩ : ∃ c fo, o.op = .call c ∧ c.callee = .value fo ∧ ax0 P fo = some f ∧ axs P c.argTypes.toList c.args.toList = some args := by
            simp only [AOp.erase] at hao
            unfold resolve at hao
            split at hao
            case h_26 c ho =>
              split at hao
              · rename_i fo hc
                split at hao
                · rename_i h1 h2; cases hao; exact ⟨c, fo, ho, hc, h1, h2⟩
                · cases hao
              all_goals first | (cases hao; done) | skip
              all_goals (repeat' split at hao) <;> first | (cases hao; done) | (simp only [Option.map_eq_some_iff] at hao; obtain ⟨_, _, e⟩ := hao; cases e)
            all_goals first | (cases hao; done) | skip
            all_goals (repeat' split at hao) <;> first | (cases hao; done) | (simp only [Option.map_eq_some_iff] at hao; obtain ⟨_, _, e⟩ := hao; cases e)
          have hfv := hm.fr.opd hf
          unfold callA at hs
          split at hs
          · rename_i fid first cap hfe
            rw [hfe] at hfv
            generalize hE : a.eval fo = vf at hfv
            cases hfv with
            | fn n1 n2 n3 n4 =>
              rename_i us1 us2
              obtain ⟨⟨fn, e1, e2, e3⟩, hcall⟩ := hs
              obtain ⟨g1, g2⟩ := opds_pts (P := P) hm.fr ha
              have hrun := run_call (w := w) ho hc hE e1 e2 e3
              rw [hrun, Oper.uponIn_enter]
              refine ⟨fun h => (by cases h), ?_⟩
              refine (callsIn_wide (n := 0 - 1)).2 (Calls.mono (hcall G w _ (by simp only [Array.size_append, List.length_append]; omega) (pts_concat n1 g1 n3 g2 n4) hm.rel) ?_)
              intro e w2 he
              cases e with
              | returned v =>
                obtain ⟨G', x, μ', L', h1, h2, h3, h4⟩ := he
                exact ⟨_, G', h4, hm.put h3 h2 (okOper_dst hok) h1, h3⟩
              | panicked chain =>
                obtain ⟨G', v, x, μ', L', h0, h1, h2, h3, h4⟩ := he
                exact hQ _ _ _ ⟨_, G', v, x, h0, h4, h1, ⟨hm.size, hm.df.evo h3, hm.fr.evo h3, h2⟩, h3⟩
              | outgrown => exact he.elim
          · -- a round
            rename_i j hfe
            rw [hfe] at hfv
            generalize hE : a.eval fo = vf at hfv
            cases hfv with
            | @yld _ b s hloc =>
              obtain ⟨g1, g2⟩ := opds_pts (P := P) hm.fr ha
              obtain ⟨b', s', q1, fn, tmps, ca, cb, q2, q3⟩ := hs G w _ g1 g2 hm.rel
              rw [hloc] at q1
              simp only [Option.some.injEq, Prod.mk.injEq] at q1
              obtain ⟨rfl, rfl⟩ := q1
              have hrun : (execOp a.eval o).run P w = .ok (.round b fn tmps ca cb) w := by
                simp [execOp, ho, Go.resolve, hc, hE, Deferred.ofValue, invoke, q2]
              rw [hrun, Oper.uponIn_round]
              refine ⟨fun h => (by cases h), ?_⟩
              have q4 : RoundIn (FW ro) (0 - 1) P b fn tmps ca cb w (EndR G w _ (fun _ _ _ => False)) := q3
              refine q4.mono ?_
              intro e w2 he
              cases e with
              | returned v =>
                obtain ⟨G', x, μ', L', h1, h2, h3, h4⟩ := he
                exact ⟨_, G', h4, hm.put h3 h2 (okOper_dst hok) h1, h3⟩
              | panicked chain =>
                obtain ⟨G', v, x, μ', L', h0, h1, h2, h3, h4⟩ := he
                exact h4.elim
              | outgrown => exact he.elim
          · exact hs.elim
        · -- a panic
          rename_i x
          obtain ⟨xo, ho, hx⟩ : ∃ xo, o.op = .panic xo ∧ ax0 P xo = some x := by
            simp only [AOp.erase] at hao
            unfold resolve at hao
            split at hao
            case h_24 xo ho =>
              simp only [Option.map_eq_some_iff] at hao
              obtain ⟨z, hz, e⟩ := hao
              cases e; exact ⟨xo, ho, hz⟩
            all_goals first | (cases hao; done) | skip
            all_goals (repeat' split at hao) <;> first | (cases hao; done) | (simp only [Option.map_eq_some_iff] at hao; obtain ⟨_, _, e⟩ := hao; cases e)
          have hv := hm.fr.opd hx
          split at hs
          · rename_i t v hse
            rw [hse] at hv
            generalize hE : a.eval xo = vx at hv
            cases hv with
            | @iface _ u _ hu =>
              have hrun : (execOp a.eval o).run P w = .halt (.panic (.iface t u)) w := by
                simp [execOp, ho, hE, Instr.panic, goPanic]
              rw [hrun, Oper.uponIn_panic]
              exact hQ _ _ _ ⟨σ, G, _, _, rfl, hs, .iface hu, hm, Evo.refl _ _⟩
          · exact hs.elim
        · -- a deferred call
          rename_i f args
          obtain ⟨c, fo, ho, hc, hf, ha⟩ : ∃ c fo, o.op = .defer c ∧ c.callee = .value fo ∧ ax0 P fo = some f ∧ axs P c.argTypes.toList c.args.toList = some args := by
            simp only [AOp.erase] at hao
            unfold resolve at hao
            split at hao
            case h_25 c ho =>
              split at hao
              · rename_i fo hc
                split at hao
                · rename_i h1 h2; cases hao; exact ⟨c, fo, ho, hc, h1, h2⟩
                · cases hao
              · cases hao
            all_goals first | (cases hao; done) | skip
            all_goals (repeat' split at hao) <;> first | (cases hao; done) | (simp only [Option.map_eq_some_iff] at hao; obtain ⟨_, _, e⟩ := hao; cases e)
          have hfv := hm.fr.opd hf
          split at hs
          · rename_i fid first cap hfe
            rw [hfe] at hfv
            generalize hE : a.eval fo = vf at hfv
            cases hfv with
            | fn n1 n2 n3 n4 =>
              rename_i us1 us2
              obtain ⟨g1, g2⟩ := opds_pts (P := P) hm.fr ha
              have hrun : (execOp a.eval o).run P w = .ok (.defer { target := .fn (.func fid) us2, args := us1 ++ c.args.map a.eval }) w := by
                simp [execOp, ho, Go.resolve, hc, hE, Deferred.ofValue]
              rw [hrun, Oper.uponIn_defer]
              refine ⟨_, G, hs, ?_, Evo.refl _ _⟩
              have hm' : Mean nt G { σ with df := .call fid (first ++ rds σ.t args) cap :: σ.df } { a with defers := { target := .fn (.func fid) us2, args := us1 ++ c.args.map a.eval } :: a.defers } w := by
                refine ⟨hm.size, ⟨⟨us2, rfl, n2, n4, by simp only [Array.size_append, List.length_append]; omega, ?_⟩, hm.df⟩, hm.fr, hm.rel⟩
                have := pts_concat (C := #[]) (cs := []) n1 g1 n3 g2 (fun k u y hu => by simp at hu)
                simpa using this
              exact hm'.put (Evo.refl _ _) hm'.rel (okOper_dst hok) (.tup rfl (by simp))
          · exact hs.elim
        · -- any other one
          obtain ⟨rr, u, w', G', v, μ', L', h1, h2, h3, h4, h5, h6⟩ := op_soundE hao hm.fr hm.rel hs
          rw [h1]
          have hh : Holds nt G w K (a.put o.dst u) w' := ⟨_, G', h6, hm.put h5 h4 (okOper_dst hok) h3, h5⟩
          rcases h2 with rfl | ⟨rfl, rfl⟩
          · exact hh
          · exact hh
    · obtain ⟨rdst, rguard, ao, rpre⟩ := r
      simp only [ROp.erase, Option.some.injEq, ROp.mk.injEq] at hr
      obtain ⟨rfl, rfl, hst, rfl⟩ := hr
      have hst : ao = .stuck := by cases ao <;> simp only [AOp.erase, reduceCtorEq] at hst <;> rfl
      subst hst
      unfold wpOpIn
      simp only [hi]
      unfold stepA at hs
      simp only at hs
      split at hs
      · exact hs.elim
      · rename_i hg
        rw [guard_spec hm.fr hg]
        simp only [Bool.false_eq_true, if_false]
        exact ⟨fun _ _ => trivial, _, G, hs, hm.put (Evo.refl _ _) hm.rel (okOper_dst hok) (.tup rfl (by simp)), Evo.refl _ _⟩
      · simp [opM, kernP] at hs
  · cases hr

end
end Go.Bm

/- The second abstract machine: operations of which neither must come first change places. -/
namespace Go.Bm
open Go

def Agree (t t' : Regs) (l : List Nat) : Prop := ∀ n ∈ l, t n = t' n

theorem Agree.left {t t' : Regs} {a b : List Nat} (h : Agree t t' (a ++ b)) : Agree t t' a := fun n hn => h n (List.mem_append_left _ hn)
theorem Agree.right {t t' : Regs} {a b : List Nat} (h : Agree t t' (a ++ b)) : Agree t t' b := fun n hn => h n (List.mem_append_right _ hn)

theorem rd_congr {t t' : Regs} {x : AX} (h : Agree t t' x.regs) : rd t x = rd t' x := by
  cases x with
  | t n => exact h n (by simp [AX.regs])
  | k v => rfl

theorem rds_congr {t t' : Regs} : ∀ {xs : List AX}, Agree t t' (xs.flatMap AX.regs) → rds t xs = rds t' xs
  | [], _ => rfl
  | x :: xs, h => by
    simp only [List.flatMap_cons] at h
    simp only [rds, rd_congr h.left, rds_congr h.right]

theorem hiOf_congr {t t' : Regs} {n : Nat} {x : Option AX} (h : Agree t t' (axo_regs x)) : hiOf t n x = hiOf t' n x := by
  cases x with
  | none => rfl
  | some x => simp only [hiOf, rd_congr h]

theorem boundsOf_congr {t t' : Regs} {n : Nat} {x y : Option AX} (h : Agree t t' (axo_regs x)) (h' : Agree t t' (axo_regs y)) : boundsOf t n x y = boundsOf t' n x y := by
  unfold boundsOf
  rw [hiOf_congr h']
  cases x with
  | none => rfl
  | some x => simp only [rd_congr h]

theorem maxOk_congr {t t' : Regs} {n : Nat} {x : Option AX} (h : Agree t t' (axo_regs x)) : maxOk t n x = maxOk t' n x := by
  cases x with
  | none => rfl
  | some x => simp only [maxOk, rd_congr h]

theorem fillParts_congr {t t' : Regs} : ∀ {ps : List (Nat × Nat × AX)} {cs : List PV}, Agree t t' (ps.flatMap fun p => p.2.2.regs) → fillParts t cs ps = fillParts t' cs ps
  | [], _, _ => rfl
  | (off, n, x) :: ps, cs, h => by
    simp only [List.flatMap_cons] at h
    simp only [fillParts, rd_congr h.left]
    split
    · exact fillParts_congr h.right
    · rfl

theorem fillElems_congr {t t' : Regs} {sz : Nat} : ∀ {ps : List (Nat × AX)} {cs : List PV}, Agree t t' (ps.flatMap fun p => p.2.regs) → fillElems t sz cs ps = fillElems t' sz cs ps
  | [], _, _ => rfl
  | (i, x) :: ps, cs, h => by
    simp only [List.flatMap_cons] at h
    simp only [fillElems, rd_congr h.left]
    split
    · exact fillElems_congr h.right
    · rfl

theorem kernP_congr {t t' : Regs} {ao : AOp} (h : Agree t t' ao.regs) : kernP ao t = kernP ao t' := by
  cases ao <;> simp only [AOp.regs] at h <;> simp only [kernP]
  case mv => rw [rd_congr h]
  case pick => rw [rd_congr h.left.left, rd_congr h.left.right, rd_congr h.right]
  case build => rw [fillParts_congr h]
  case bslice => rw [fillElems_congr h]
  case nilck => rw [rd_congr h]
  case bin => rw [rd_congr h.left, rd_congr h.right]
  case binb => rw [rd_congr h.left, rd_congr h.right]
  case isnil => rw [rd_congr h]
  case eqs => rw [rd_congr h.left, rd_congr h.right]
  case un => rw [rd_congr h]
  case conv => rw [rd_congr h]
  case mkif => rw [rd_congr h]
  case fbox => rw [rd_congr h]
  case mkfn => rw [rds_congr h.left, rds_congr h.right]
  case slice => rw [rd_congr h.left.left.left]; simp only [boundsOf_congr h.left.left.right h.left.right, maxOk_congr h.right]
  case sstr => rw [rd_congr h.left.left]; simp only [boundsOf_congr h.left.right h.right]
  case faddr => rw [rd_congr h]
  case iaddr => rw [rd_congr h.left, rd_congr h.right]
  case fld => rw [rd_congr h]
  case idx => rw [rd_congr h.left, rd_congr h.right]
  case sidx => rw [rd_congr h.left, rd_congr h.right]
  case extr => rw [rd_congr h]
  case len => rw [rd_congr h]
  case slen => rw [rd_congr h]
  case mnx => rw [rd_congr h.left, rd_congr h.right]
  case tass => rw [rd_congr h]

theorem opM_congr {t t' : Regs} {ao : AOp} {μ : Mem} {L : Lv} {K : KA} (h : Agree t t' ao.regs) : opM ao t μ L K = opM ao t' μ L K := by
  have hk := kernP_congr h
  cases ao <;> simp only [AOp.regs] at h <;> simp only [opM]
  case box => rw [rd_congr h]
  case load => rw [rd_congr h]
  case store => rw [rd_congr h.left, rd_congr h.right]
  case isnils => rw [rd_congr h]
  case b2s => rw [rd_congr h]
  case mkslice => rw [rd_congr h.left, rd_congr h.right]
  case append => rw [rd_congr h.left, rd_congr h.right]
  case mlen => rw [rd_congr h]
  case rangem => rw [rd_congr h]
  case nextm => rw [rd_congr h]
  all_goals rw [hk]

theorem upd_same (t : Regs) (d : Nat) (v : PV) : upd t d v d = v := by simp [upd]
theorem upd_ne (t : Regs) {d n : Nat} (v : PV) (h : n ≠ d) : upd t d v n = t n := by simp only [upd, beq_no h, cond_false]

theorem upd_comm (t : Regs) {d e : Nat} (v u : PV) (h : d ≠ e) : upd (upd t d v) e u = upd (upd t e u) d v := by
  funext n
  by_cases h1 : n = e
  · subst h1
    rw [upd_same, upd_ne _ _ (fun e => h e.symm), upd_same]
  · rw [upd_ne _ _ h1]
    by_cases h2 : n = d
    · subst h2; rw [upd_same, upd_same]
    · rw [upd_ne _ _ h2, upd_ne _ _ h2, upd_ne _ _ h1]

theorem agree_upd {t : Regs} {d : Nat} {v : PV} {l : List Nat} (h : d ∉ l) : Agree (upd t d v) t l := fun n hn => upd_ne _ _ (fun e => h (e ▸ hn))

def ROp.free (r : ROp) (d : Option Nat) : Prop := ∀ n, d = some n → n ∉ r.regs ∧ r.dst ≠ some n

theorem put_comm {σ : St} {d e : Option Nat} {v u : PV} (h : ∀ n, d = some n → e ≠ some n) : (σ.put d v).put e u = (σ.put e u).put d v := by
  cases d with
  | none => rfl
  | some d =>
    cases e with
    | none => rfl
    | some e =>
      simp only [St.put]
      rw [upd_comm _ _ _ (fun q => h d rfl (by rw [q]))]

theorem guardA_congr {t t' : Regs} {g : Option (Option Nat × Bool)} (h : Agree t t' (match g with | some (some n, _) => [n] | _ => [])) : guardA t g = guardA t' g := by
  cases g with
  | none => rfl
  | some g =>
    obtain ⟨n, b⟩ := g
    cases n with
    | none => rfl
    | some n => simp only [guardA, h n (by simp)]

/-- A slot that an operation does not look at may be written before or behind it. -/
theorem stepA_put {P : Program} {r : ROp} {K : St → Prop} {KP : PV → St → Prop} {σ : St} {d : Option Nat} {v : PV} (h : r.free d) :
    stepA P r K KP (σ.put d v) ↔ stepA P r (fun σ' => K (σ'.put d v)) (fun p σ' => KP p (σ'.put d v)) σ := by
  cases d with
  | none => exact Iff.rfl
  | some d =>
    obtain ⟨h1, h2⟩ := h d rfl
    have ha : Agree (upd σ.t d v) σ.t r.regs := agree_upd h1
    have hao : Agree (upd σ.t d v) σ.t r.ao.regs := ha.left
    have hg : guardA (upd σ.t d v) r.guard = guardA σ.t r.guard := guardA_congr ha.right
    have hc : ∀ (σ : St) (u : PV), (σ.put (some d) v).put r.dst u = (σ.put r.dst u).put (some d) v := fun σ u => put_comm (fun n hn => by cases hn; exact fun e => h2 e)
    have hst : (σ.put (some d) v).t = upd σ.t d v := rfl
    have hk : ∀ (u : PV) (μ : Mem) (L : Lv) (df : List Dfr), K (St.put ⟨upd σ.t d v, μ, L, df⟩ r.dst u) = K ((St.put ⟨σ.t, μ, L, df⟩ r.dst u).put (some d) v) := by
      intro u μ L df
      rw [← hc]; rfl
    unfold stepA
    rw [hst, hg]
    split
    · exact Iff.rfl
    · rw [hc]
    · split
      · rename_i f args hao'
        rw [hao'] at hao
        simp only [AOp.regs] at hao
        rw [rd_congr hao.left, rds_congr hao.right]
        exact ⟨fun h => callA_mono h (fun u μ L hh => Eq.mp (hk u μ L _) hh) (fun _ _ _ h => h), fun h => callA_mono h (fun u μ L hh => Eq.mpr (hk u μ L _) hh) (fun _ _ _ h => h)⟩
      · rename_i x hao'
        rw [hao'] at hao
        simp only [AOp.regs] at hao
        rw [rd_congr hao]
      · rename_i f args hao'
        rw [hao'] at hao
        simp only [AOp.regs] at hao
        rw [rd_congr hao.left, rds_congr hao.right]
        split
        · rename_i fid first cap _
          exact ⟨fun h => Eq.mp (hk _ _ _ _) h, fun h => Eq.mpr (hk _ _ _ _) h⟩
        · exact Iff.rfl
      · rw [opM_congr hao]
        exact ⟨fun h => opM_mono (fun u μ L hh => Eq.mp (hk u μ L _) hh) h, fun h => opM_mono (fun u μ L hh => Eq.mpr (hk u μ L _) hh) h⟩

/-- What is asked behind an operation is asked of states that differ at its slot alone. -/
theorem stepA_at {P : Program} {r : ROp} {K K' : St → Prop} {KP KP' : PV → St → Prop} {σ : St} (h : ∀ σ', (∀ n, r.dst ≠ some n → σ'.t n = σ.t n) → K σ' → K' σ') (h' : ∀ p σ', KP p σ' → KP' p σ') (hk : stepA P r K KP σ) : stepA P r K' KP' σ := by
  have hput : ∀ (σ' : St) (v : PV), σ'.t = σ.t → ∀ n, r.dst ≠ some n → (σ'.put r.dst v).t n = σ.t n := by
    intro σ' v ht n hn
    cases hd : r.dst with
    | none => simp only [St.put]; rw [ht]
    | some d => simp only [St.put]; rw [upd_ne _ _ (fun e => hn (by rw [hd, e])), ht]
  unfold stepA at hk ⊢
  split at hk
  · exact hk
  · exact h _ (hput σ _ rfl) hk
  · split at hk
    · exact callA_mono hk (fun v μ L => h _ (hput _ _ rfl)) (fun _ _ _ => h' _ _)
    · split at hk
      · exact h' _ _ hk
      · exact hk
    · split at hk
      · exact h _ (hput _ _ rfl) hk
      · exact hk
    · exact opM_mono (fun v μ L => h _ (hput _ _ rfl)) hk

/-- The value of an operation that only looks. -/
def valA (r : ROp) (t : Regs) (μ : Mem) : Option PV :=
  match guardA t r.guard with
  | none => none
  | some false => some (.tup [])
  | some true => match r.ao with
    | .load agg x => match rd t x with
      | .ptr i off => match μ i with
        | some (.cells cs) => partV agg cs off
        | _ => none
      | .fpp cs => partV agg cs 0
      | _ => none
    | ao => kernP ao t

theorem stepA_val {P : Program} {r : ROp} {K : St → Prop} {KP : PV → St → Prop} {σ : St} (hc : Nat.ble r.cls 2 = true) : stepA P r K KP σ ↔ ∃ v, valA r σ.t σ.μ = some v ∧ K (σ.put r.dst v) := by
  have hle : r.ao.cls ≤ 2 := by
    have := Nat.le_of_ble_eq_true hc
    unfold ROp.cls at this
    split at this
    · exact this
    · omega
  have mi : ∀ {x : Option PV} {K : PV → Prop}, (match x with | some v => K v | none => False) ↔ ∃ v, x = some v ∧ K v := by
    intro x K
    cases x <;> simp
  unfold stepA valA
  cases hg : guardA σ.t r.guard with
  | none => simp
  | some b =>
    cases b with
    | false => simp
    | true =>
      cases hao : r.ao <;> rw [hao] at hle <;> simp [AOp.cls] at hle
      case load agg x =>
        simp only [opM]
        cases hr : rd σ.t x with
        | ptr i off =>
          simp only []
          constructor
          · rintro ⟨cs, v, q1, q2, q3⟩
            exact ⟨v, by rw [q1]; exact q2, q3⟩
          · rintro ⟨v, q1, q2⟩
            split at q1
            · rename_i cs hcs; exact ⟨cs, v, hcs, q1, q2⟩
            · cases q1
        | fpp cs => exact Iff.rfl
        | _ => simp
      all_goals first | exact mi | (simp only [opM, kernP, Option.some.injEq, exists_eq_left']; done)

theorem valA_congr {r : ROp} {t t' : Regs} {μ : Mem} (h : Agree t t' r.regs) : valA r t μ = valA r t' μ := by
  unfold valA
  rw [guardA_congr h.right]
  have hao : Agree t t' r.ao.regs := h.left
  split
  · rfl
  · rfl
  · split
    · rename_i agg x hx
      rw [hx] at hao
      simp only [AOp.regs] at hao
      rw [rd_congr hao]
    · exact kernP_congr hao

theorem valA_mem {r : ROp} {t : Regs} {μ μ' : Mem} (hc : Nat.ble r.cls 1 = true) : valA r t μ = valA r t μ' := by
  have hle : r.ao.cls ≤ 1 := by
    have := Nat.le_of_ble_eq_true hc
    unfold ROp.cls at this
    split at this
    · exact this
    · omega
  unfold valA
  split
  · rfl
  · rfl
  · split
    · rename_i agg x hx
      rw [hx] at hle; simp [AOp.cls] at hle
    · rfl

theorem valA_total {r : ROp} (t : Regs) (μ : Mem) (hc : r.cls = 0) : ∃ v, valA r t μ = some v := by
  unfold ROp.cls at hc
  split at hc
  · rename_i hg
    unfold valA
    rw [hg]
    simp only [guardA]
    cases hao : r.ao <;> rw [hao] at hc <;> simp [AOp.cls] at hc
    · exact ⟨_, rfl⟩
    · exact ⟨_, rfl⟩
    · exact ⟨_, rfl⟩
  · omega

theorem TI.put {KP : PV → St → Prop} (h : TI KP) {p : PV} {σ : St} {d : Option Nat} {v : PV} (hk : KP p σ) : KP p (σ.put d v) := by
  cases d with
  | none => exact hk
  | some d => exact h p σ _ hk

theorem TI.unput {KP : PV → St → Prop} (h : TI KP) {p : PV} {σ : St} {d : Option Nat} {v : PV} (hk : KP p (σ.put d v)) : KP p σ := by
  cases d with
  | none => exact hk
  | some d => exact h p { σ with t := upd σ.t d v } σ.t hk

theorem okPair_spec {a b : ROp} (h : okPair a b = true) : b.free a.dst ∧ (∀ n, b.dst = some n → n ∉ a.regs) ∧ ((Nat.ble a.cls 2 = true ∧ Nat.ble b.cls 2 = true) ∨ Nat.ble a.cls 1 = true ∨ b.cls = 0) := by
  unfold okPair at h
  simp only [Bool.and_eq_true, Bool.or_eq_true, beq_iff_eq] at h
  obtain ⟨⟨h1, h2⟩, h3⟩ := h
  refine ⟨?_, ?_, ?_⟩
  · intro n hn
    rw [hn] at h1
    simp only [Bool.and_eq_true, Bool.not_eq_true', bne_iff_ne, ne_eq] at h1
    exact ⟨by simpa using h1.1, h1.2⟩
  · intro n hn
    rw [hn] at h2
    simpa using h2
  · rcases h3 with (h3 | h3) | h3
    · exact .inl h3
    · exact .inr (.inl h3)
    · exact .inr (.inr h3)

theorem put_t (σ : St) (d : Option Nat) (v : PV) : (σ.put d v).μ = σ.μ := by cases d <;> rfl

theorem agree_put {σ : St} {d : Option Nat} {v : PV} {l : List Nat} (h : ∀ n, d = some n → n ∉ l) : Agree (σ.put d v).t σ.t l := by
  cases d with
  | none => exact fun _ _ => rfl
  | some d => exact agree_upd (h d rfl)

/-- Two operations change places. -/
theorem swap {P : Program} {a b : ROp} {K : St → Prop} {KP : PV → St → Prop} {σ : St} (hp : okPair a b = true) (ht : TI KP) (h : stepA P a (stepA P b K KP) KP σ) : stepA P b (stepA P a K KP) KP σ := by
  obtain ⟨f1, f2, f3⟩ := okPair_spec hp
  have hdd : ∀ n, b.dst = some n → a.dst ≠ some n := by
    intro n hn ha
    exact (f1 n ha).2 hn
  have fa : a.free b.dst := fun n hn => ⟨f2 n hn, hdd n hn⟩
  rcases f3 with ⟨c1, c2⟩ | c1 | c1
  · rw [stepA_val c1] at h
    obtain ⟨va, q1, h⟩ := h
    rw [stepA_val c2] at h
    obtain ⟨vb, q2, h⟩ := h
    rw [stepA_val c2]
    refine ⟨vb, ?_, ?_⟩
    · rw [← q2, put_t]
      exact (valA_congr (agree_put (fun n hn => (f1 n hn).1))).symm
    · rw [stepA_val c1]
      refine ⟨va, ?_, ?_⟩
      · rw [← q1, put_t]
        exact valA_congr (agree_put f2)
      · rw [put_comm hdd]
        exact h
  · have c1' : Nat.ble a.cls 2 = true := by
      have := Nat.le_of_ble_eq_true c1
      exact Nat.ble_eq_true_of_le (by omega)
    rw [stepA_val c1'] at h
    obtain ⟨va, q1, h⟩ := h
    rw [stepA_put f1] at h
    refine stepA_at ?_ ?_ h
    · intro σ' hσ' hk
      rw [stepA_val c1']
      refine ⟨va, ?_, hk⟩
      rw [← q1, valA_mem (μ' := σ.μ) c1]
      refine valA_congr ?_
      intro n hn
      exact hσ' n (fun e => f2 n e hn)
    · intro p σ' hk
      exact ht.unput hk
  · have c2 : Nat.ble b.cls 2 = true := by rw [c1]; rfl
    have c3 : Nat.ble b.cls 1 = true := by rw [c1]; rfl
    obtain ⟨vb, qb⟩ := valA_total σ.t σ.μ c1
    rw [stepA_val c2]
    refine ⟨vb, qb, ?_⟩
    rw [stepA_put fa]
    refine stepA_at ?_ (fun p σ' hk => ht.put hk) h
    intro σ' hσ' hk
    rw [stepA_val c2] at hk
    obtain ⟨v', q', hk⟩ := hk
    have : valA b σ'.t σ'.μ = valA b σ.t σ.μ := by
      rw [valA_mem (μ' := σ.μ) c3]
      refine valA_congr ?_
      intro n hn
      exact hσ' n (fun e => (f1 n e).1 hn)
    rw [this, qb] at q'
    cases q'
    exact hk

/-- An operation goes to the front. -/
theorem toFront {P : Program} {KP : PV → St → Prop} {r : ROp} (ht : TI KP) : ∀ (as : List ROp) (bs : List ROp) {K : St → Prop} {σ : St}, (∀ a ∈ as, okPair a r = true) → runA P (as ++ r :: bs) K KP σ → runA P (r :: (as ++ bs)) K KP σ
  | [], bs, K, σ, _, h => h
  | a :: as, bs, K, σ, hok, h => by
    have h1 : stepA P a (runA P (r :: (as ++ bs)) K KP) KP σ := stepA_mono (fun σ' hh => toFront ht as bs (fun x hx => hok x (List.mem_cons_of_mem _ hx)) hh) (fun _ _ h => h) h
    exact swap (hok a (List.mem_cons_self ..)) ht h1

end Go.Bm

/- The second abstract machine: what a call knows nothing of stays. -/
namespace Go.Bm
open Go

theorem RV.reown {G G' : Gh} {w : World} {v : Value} {x : PV} (h : RV G w v x) (h1 : G'.loc = G.loc) (h2 : G'.tok = G.tok) (h3 : G'.fz = G.fz) : RV G' w v x :=
  h.mono (fun i y q => by rw [h1]; exact q) (fun i y q => by rw [h2]; exact q) (fun b o q => by rw [h3]; exact q) (fun _ _ _ => rfl)

theorem ObjR.reown {G G' : Gh} {w : World} {i : Nat} {o : AObj} (h : ObjR G w i o) (h1 : G'.loc = G.loc) (h2 : G'.tok = G.tok) (h3 : G'.fz = G.fz) (h4 : ∀ b, G.ow b = some (.obj i) → G'.ow b = some (.obj i)) : ObjR G' w i o := by
  cases o with
  | cells cs =>
    rcases h with ⟨e, q⟩ | ⟨b, arr, el, q1, q2, q3, q4, q5, q6, q7⟩
    · exact .inl ⟨e, by rw [h1]; exact q⟩
    · exact .inr ⟨b, arr, el, by rw [h1]; exact q1, q2, q3, h4 _ q4, by rw [h3]; exact q5, q6, fun k u y hu hy => (q7 k u y hu hy).reown h1 h2 h3⟩
  | map es =>
    obtain ⟨b, s, ents, cl, q1, q2, q3, q4, q5, q6⟩ := h
    exact ⟨b, s, ents, cl, by rw [h1]; exact q1, q2, h4 _ q3, by rw [h3]; exact q4, q5, fun k u y hu hy => ⟨(q6 k u y hu hy).1.reown h1 h2 h3, (q6 k u y hu hy).2.reown h1 h2 h3⟩⟩
  | lp busy r =>
    obtain ⟨b, s, l, q1, q2, q3, q4, q5⟩ := h
    exact ⟨b, s, l, by rw [h1]; exact q1, q2, h4 _ q3, by rw [h3]; exact q4, q5.1, q5.2.1, q5.2.2.1, fun n => (q5.2.2.2.1 n).reown h1 h2 h3, q5.2.2.2.2⟩
  | dq =>
    obtain ⟨b, s, q1, q2, q3, q4⟩ := h
    exact ⟨b, s, by rw [h1]; exact q1, q2, h4 _ q3, by rw [h3]; exact q4⟩
  | iter m =>
    obtain ⟨b, s, b', s', since, last, q1, q0, q2, q3, q4⟩ := h
    exact ⟨b, s, b', s', since, last, by rw [h1]; exact q1, by rw [h1]; exact q0, q2, h4 _ q3, by rw [h3]; exact q4⟩

theorem LiveR.reown {G G' : Gh} {w : World} {a : Nat} (h : LiveR G w a) (h2 : G'.tok = G.tok) (h3 : G'.fz = G.fz) (h4 : ∀ b, G.ow b = some (.tok a) → G'.ow b = some (.tok a)) : LiveR G' w a := by
  unfold LiveR at h ⊢
  rw [h2]
  cases hq : G.tok a with
  | none => simp [hq] at h
  | some x =>
    cases x with
    | none => trivial
    | some x =>
      obtain ⟨b, p, x⟩ := x
      rw [hq] at h
      obtain ⟨arr, el, q1, q2, q3, q4, q5⟩ := h
      exact ⟨arr, el, q1, q2, q3, h4 _ q4, by rw [h3]; exact q5⟩

/-- An object of some cells has a block. -/
theorem ObjR.block {G : Gh} {w : World} {i : Nat} {o : AObj} (h : ObjR G w i o) (ho : o ≠ .cells []) : ∃ b s, G.loc i = some (b, s) ∧ G.ow b = some (.obj i) ∧ ∀ k, ¬ G.fz b k := by
  cases o with
  | cells cs =>
    rcases h with ⟨e, q⟩ | ⟨b, arr, el, q1, q2, q3, q4, q5, q6, q7⟩
    · exact absurd (by rw [e]) ho
    · exact ⟨b, _, q1, q4, q5⟩
  | map es => obtain ⟨b, s, ents, cl, q1, q2, q3, q4, q5, q6⟩ := h; exact ⟨b, s, q1, q3, q4⟩
  | lp busy r => obtain ⟨b, s, l, q1, q2, q3, q4, q5⟩ := h; exact ⟨b, s, q1, q3, q4⟩
  | dq => obtain ⟨b, s, q1, q2, q3, q4⟩ := h; exact ⟨b, s, q1, q3, q4⟩
  | iter m => obtain ⟨b, s, b', s', since, last, q1, q0, q2, q3, q4⟩ := h; exact ⟨b, s, q1, q3, q4⟩

/-- An object and the rest: the rest may be seen without it, and it is there again behind. -/
theorem Rel.cut {G : Gh} {μ : Mem} {L : Lv} {w : World} {i : Nat} {o : AObj} (ho : o ≠ .cells []) (hi : Fresh μ L i) (h : Rel G (μ.set i o) L w) :
    ∃ G0, Rel G0 μ L w ∧ G0.loc = G.loc ∧ G0.tok = G.tok ∧ G0.fz = G.fz ∧ ∀ {G' : Gh} {μ' : Mem} {L' : Lv} {w' : World}, Rel G' μ' L' w' → Evo G0 w G' w' →
      ∃ G'', Rel G'' (μ'.set i o) L' w' ∧ Evo G w G'' w' ∧ Fresh μ' L' i ∧ G''.loc = G'.loc ∧ G''.tok = G'.tok ∧ G''.fz = G'.fz := by
  have hobj := h.obj i o (by simp [Mem.set])
  obtain ⟨b, s, q1, q2, q3⟩ := hobj.block ho
  have hb : b < w.heap.size := h.owlt b (by rw [q2]; simp)
  let G0 : Gh := { G with ow := fun b' => if b' = b then none else G.ow b' }
  have e0 : Evo G w G0 w := ⟨Nat.le_refl _, fun _ _ h => h, fun _ _ h => h, fun _ _ h => h, fun _ _ h => h, fun _ _ _ => rfl, fun b' _ hh => ⟨rfl, by show (if b' = b then none else G.ow b') = none; split <;> simp_all⟩, Nat.le_refl _, rfl, rfl, rfl, fun _ _ _ _ h => h, fun _ _ h => h, fun h => h⟩
  have hne : ∀ b' x, G.ow b' = some x → x ≠ .obj i → G0.ow b' = some x := by
    intro b' x hx hn
    show (if b' = b then none else G.ow b') = some x
    rw [if_neg (fun e => by rw [e, q2] at hx; cases hx; exact hn rfl)]
    exact hx
  have hr0 : Rel G0 μ L w := by
    refine h.carry e0 ?_ ?_ h.fzlt ?_ ?_
    · intro j x hj
      have hji : j ≠ i := fun e => by rw [e, hi.1] at hj; cases hj
      refine .inl ⟨by simp [Mem.set, hji, hj], fun b' s' _ hx => ⟨rfl, hne _ _ hx (by simpa using hji), fun _ h => h⟩⟩
    · intro a ha
      exact .inl ⟨ha, fun b' p x _ hx => ⟨rfl, hne _ _ hx (by simp), fun _ _ h => h⟩⟩
    · intro b' hb'
      have : (if b' = b then none else G.ow b') ≠ none := hb'
      split at this
      · simp at this
      · exact h.owlt b' this
    · intro j hj
      obtain ⟨p1, p2, p3, p4⟩ := h.nx j hj
      refine ⟨p1, p2, ?_, p4⟩
      simp only [Mem.set] at p3
      split at p3
      · cases p3
      · exact p3
  refine ⟨G0, hr0, rfl, rfl, rfl, ?_⟩
  intro G' μ' L' w' hr e
  have hb0 : G0.ow b = none := by show (if b = b then none else G.ow b) = none; simp
  obtain ⟨o1, o2⟩ := e.old b hb hb0
  have hi' : i < G.nx := h.loclt q1
  have hfr : Fresh μ' L' i := by
    constructor
    · cases hm : μ' i with
      | none => rfl
      | some x =>
        exfalso
        have hx := hr.obj i x hm
        by_cases hx0 : x = .cells []
        · subst hx0
          rcases hx with ⟨_, q⟩ | ⟨b', arr, el, p1, p2, p3, p4, p5, p6, p7⟩
          · rw [e.loc _ _ q1] at q; cases q
          · rw [e.loc _ _ q1] at p1; cases p1; rw [o2] at p4; cases p4
        · obtain ⟨b', s', p1, p2, p3⟩ := hx.block hx0
          rw [e.loc _ _ q1] at p1; cases p1; rw [o2] at p2; cases p2
    · intro hl
      have hx := hr.tok i hl
      have ht : G.tok i = none := (h.dj i).resolve_left (by rw [q1]; simp)
      have := e.tokn i hi' ht
      unfold LiveR at hx
      rw [this] at hx
      exact hx
  let G'' : Gh := { G' with ow := fun b' => if b' = b then some (.obj i) else G'.ow b' }
  have hev : Evo G w G'' w' := by
    refine ⟨e.nx, e.loc, e.locn, e.tok, e.fz, e.cells, ?_, e.size, e.os, e.tape, e.output, ?_, e.tokn, e.dj⟩
    · intro b' hb' hx
      have hbb : b' ≠ b := fun e => by rw [e, q2] at hx; cases hx
      obtain ⟨p1, p2⟩ := e.old b' hb' (by show (if b' = b then none else G.ow b') = none; rw [if_neg hbb]; exact hx)
      exact ⟨p1, by show (if b' = b then _ else G'.ow b') = none; rw [if_neg hbb]; exact p2⟩
    · intro b' k hb' hx hf
      have hbb : b' ≠ b := fun e => by rw [e, q2] at hx; cases hx
      exact e.fzn b' k hb' (by show (if b' = b then none else G.ow b') = none; rw [if_neg hbb]; exact hx) hf
  have hfz : ∀ k, ¬ G''.fz b k := fun k hf => q3 k (e.fzn b k hb hb0 hf)
  have how : G''.ow b = some (.obj i) := by show (if b = b then some (.obj i) else G'.ow b) = _; rw [if_pos rfl]
  refine ⟨G'', ⟨?_, ?_, hr.fzlt, ?_, ?_, hr.dj⟩, hev, hfr, rfl, rfl, rfl⟩
  · intro j x hj
    by_cases hji : j = i
    · subst hji
      simp only [Mem.set, if_true, Option.some.injEq] at hj
      subst hj
      cases o with
      | cells cs =>
        rcases hobj with ⟨e', _⟩ | ⟨b', arr, el, p1, p2, p3, p4, p5, p6, p7⟩
        · exact absurd (by rw [e']) ho
        · rw [q1] at p1; cases p1
          exact .inr ⟨b, arr, el, e.loc _ _ q1, o1.trans p2, p3, how, hfz, p6, p7.evo hev⟩
      | map es =>
        obtain ⟨b', s', ents, cl, p1, p2, p3, p4, p5, p6⟩ := hobj
        rw [q1] at p1; cases p1
        exact ⟨b, _, ents, cl, e.loc _ _ q1, o1.trans p2, how, hfz, p5, fun k u y hu hy => ⟨(p6 k u y hu hy).1.evo hev, (p6 k u y hu hy).2.evo hev⟩⟩
      | lp busy r =>
        obtain ⟨b', s', l, p1, p2, p3, p4, p5⟩ := hobj
        rw [q1] at p1; cases p1
        exact ⟨b, _, l, e.loc _ _ q1, o1.trans p2, how, hfz, p5.1, p5.2.1, p5.2.2.1, p5.2.2.2.1.evo hev, p5.2.2.2.2⟩
      | dq =>
        obtain ⟨b', s', p1, p2, p3, p4⟩ := hobj
        rw [q1] at p1; cases p1
        exact ⟨b, _, e.loc _ _ q1, o1.trans p2, how, hfz⟩
      | iter m =>
        obtain ⟨b', s', b2, s2, since, last, p1, p0, p2, p3, p4⟩ := hobj
        rw [q1] at p1; cases p1
        exact ⟨b, _, b2, s2, since, last, e.loc _ _ q1, e.loc _ _ p0, o1.trans p2, how, hfz⟩
    · simp only [Mem.set, hji, if_false] at hj
      refine (hr.obj j x hj).reown rfl rfl rfl ?_
      intro b' hb'
      show (if b' = b then some (Owner.obj i) else G'.ow b') = _
      rw [if_neg (fun e => by rw [e, o2] at hb'; cases hb')]
      exact hb'
  · intro a ha
    refine (hr.tok a ha).reown rfl rfl ?_
    intro b' hb'
    show (if b' = b then some (Owner.obj i) else G'.ow b') = _
    rw [if_neg (fun e => by rw [e, o2] at hb'; cases hb')]
    exact hb'
  · intro b' hb'
    have : (if b' = b then some (Owner.obj i) else G'.ow b') ≠ none := hb'
    split at this
    · rename_i e'; rw [e']; exact Nat.lt_of_lt_of_le hb e.size
    · exact hr.owlt b' this
  · intro j hj
    have hj' : G'.nx ≤ j := hj
    obtain ⟨p1, p2, p3, p4⟩ := hr.nx j hj'
    refine ⟨p1, p2, ?_, p4⟩
    have : j ≠ i := fun e' => by rw [e'] at hj'; have := e.nx; simp only [G0] at this; omega
    simp only [Mem.set, this, if_false]; exact p3

section
variable {P : Program} {f : FuncId} {args : List PV} {μ : Mem} {L : Lv} {K KP : KA} {i : Nat} {o : AObj}

def FrmK (i : Nat) (o : AObj) (K : KA) : KA := fun v μ' L' => ∃ μ'', μ' = μ''.set i o ∧ Fresh μ'' L' i ∧ K v μ'' L'

theorem EndR.frame {G G0 : Gh} {w : World} (h1 : G0.loc = G.loc)
    (hcut : ∀ {G' : Gh} {μ' : Mem} {L' : Lv} {w' : World}, Rel G' μ' L' w' → Evo G0 w G' w' → ∃ G'', Rel G'' (μ'.set i o) L' w' ∧ Evo G w G'' w' ∧ Fresh μ' L' i ∧ G''.loc = G'.loc ∧ G''.tok = G'.tok ∧ G''.fz = G'.fz)
    {e : Ending} {w' : World} (he : EndR G0 w K KP e w') : EndR G w (FrmK i o K) KP e w' := by
  cases e with
  | returned v =>
    obtain ⟨G', r, μ', L', k1, k2, k3, k4⟩ := he
    obtain ⟨G'', m1, m2, m3, m4, m5, m6⟩ := hcut k2 k3
    exact ⟨G'', r, _, _, k1.reown m4 m5 m6, m1, m2, μ', rfl, m3, k4⟩
  | panicked chain =>
    obtain ⟨G', v, r, μ', L', k0, k1, k2, k3, k4⟩ := he
    obtain ⟨G'', m1, m2, m3, m4, m5, m6⟩ := hcut k2 k3
    refine ⟨G'', v, r, μ', L', k0, k1.reown m4 m5 m6, m1.forget ?_ (fun _ h => h), m2, k4⟩
    intro j x hj
    have : j ≠ i := fun e => by rw [e, m3.1] at hj; cases hj
    simp [Mem.set, this, hj]
  | outgrown => exact he

/-- A call goes as it goes where there is one more object. -/
theorem ACall.frame1 (ho : o ≠ .cells []) (hi : Fresh μ L i) (hc : ACall P f args μ L K KP) : ACall P f args (μ.set i o) L (FrmK i o K) KP := by
  refine ⟨hc.1, fun G w vals h1 h2 h3 => ?_⟩
  obtain ⟨G0, k1, k2, k3, k4, k5⟩ := h3.cut ho hi
  exact Calls.mono (hc.2 G0 w vals h1 (fun k u y hu hy => (h2 k u y hu hy).reown k2 k3 k4) k1) fun _ _ he => he.frame k2 k5

theorem AYield.frame1 {j : Nat} (ho : o ≠ .cells []) (hi : Fresh μ L i) (hc : AYield P j args μ L K) : AYield P j args (μ.set i o) L (FrmK i o K) := by
  intro G w vals h1 h2 h3
  obtain ⟨G0, k1, k2, k3, k4, k5⟩ := h3.cut ho hi
  obtain ⟨b, s, q1, fn, tmps, ca, cb, q2, q3⟩ := hc G0 w vals h1 (fun k u y hu hy => (h2 k u y hu hy).reown k2 k3 k4) k1
  exact ⟨b, s, by rw [← k2]; exact q1, fn, tmps, ca, cb, q2, q3.mono fun _ _ he => he.frame k2 k5⟩

theorem callA.frame1 {g : PV} (ho : o ≠ .cells []) (hi : Fresh μ L i) (hc : callA P g args μ L K KP) : callA P g args (μ.set i o) L (FrmK i o K) KP := by
  unfold callA at hc ⊢
  split at hc
  · exact ACall.frame1 ho hi hc
  · exact AYield.frame1 ho hi hc
  · exact hc
end
end Go.Bm

/- The second abstract machine: operations change places where loads read what calls keep. -/
namespace Go.Bm
open Go

/-- An operation, with objects W that are looked at and kept. -/
def stepW (P : Program) (W : Nat → Prop) (r : ROp) (K : St → Prop) (KP : PV → St → Prop) (σ : St) : Prop :=
  (Nat.ble r.cls 2 = true → (∀ μ', Stay W σ.μ μ' → valA r σ.t μ' = valA r σ.t σ.μ) ∧ stepA P r K KP σ) ∧
  (Nat.ble r.cls 2 = false → stepA P r (fun σ' => StayR r W σ.μ σ'.μ ∧ K σ') KP σ)

theorem stepW_mono {P : Program} {W : Nat → Prop} {r : ROp} {K K' : St → Prop} {KP : PV → St → Prop} {σ : St} (h : ∀ σ, K σ → K' σ) (hk : stepW P W r K KP σ) : stepW P W r K' KP σ :=
  ⟨fun hc => ⟨(hk.1 hc).1, stepA_mono h (fun _ _ h => h) (hk.1 hc).2⟩, fun hc => stepA_mono (fun _ hh => ⟨hh.1, h _ hh.2⟩) (fun _ _ h => h) (hk.2 hc)⟩

theorem stepW_A {P : Program} {W : Nat → Prop} {r : ROp} {K : St → Prop} {KP : PV → St → Prop} {σ : St} (hk : stepW P W r K KP σ) : stepA P r K KP σ := by
  cases hc : Nat.ble r.cls 2 with
  | true => exact (hk.1 hc).2
  | false => exact stepA_mono (fun _ h => h.2) (fun _ _ h => h) (hk.2 hc)

def runW (P : Program) (W : Nat → Prop) : List ROp → (St → Prop) → (PV → St → Prop) → St → Prop
  | [], K, _, σ => K σ
  | r :: rs, K, KP, σ => stepW P W r (runW P W rs K KP) KP σ

theorem okPairW_spec {a b : ROp} (h : okPairW a b = true) : b.free a.dst ∧ (∀ n, b.dst = some n → n ∉ a.regs) ∧ (Nat.ble a.cls 1 = true ∨ (Nat.ble a.cls 2 = true ∧ isStoreR b = false) ∨ b.cls = 0 ∨ (isAllocR b = true ∧ (isCallR a = true ∨ isAllocR a = true))) := by
  unfold okPairW at h
  simp only [Bool.and_eq_true, Bool.or_eq_true, beq_iff_eq, or_assoc, Bool.not_eq_true'] at h
  obtain ⟨⟨h1, h2⟩, h3⟩ := h
  refine ⟨?_, ?_, h3⟩
  · intro n hn
    rw [hn] at h1
    simp only [Bool.and_eq_true, Bool.not_eq_true', bne_iff_ne, ne_eq] at h1
    exact ⟨by simpa using h1.1, h1.2⟩
  · intro n hn
    rw [hn] at h2
    simpa using h2

theorem StayR.stay {r : ROp} {W : Nat → Prop} {μ μ' : Mem} (h : StayR r W μ μ') (hr : isStoreR r = false) : Stay W μ μ' := h.resolve_left (by rw [hr]; simp)
theorem StayR.of {r : ROp} {W : Nat → Prop} {μ μ' : Mem} (h : Stay W μ μ') : StayR r W μ μ' := .inr h

theorem alloc_noStore {r : ROp} (h : isAllocR r = true) : isStoreR r = false := by
  unfold isAllocR at h
  simp only [Bool.and_eq_true] at h
  have h2 := h.2
  unfold isStoreR
  split at h2
  · rename_i e; rw [e]
  · cases h2

theorem call_noStore {r : ROp} (h : isCallR r = true) : isStoreR r = false := by
  unfold isCallR at h
  unfold isStoreR
  split at h
  · rename_i e; rw [e]
  · cases h

theorem Stay.trans {W : Nat → Prop} {μ μ' μ'' : Mem} (h : Stay W μ μ') (h' : Stay W μ' μ'') : Stay W μ μ'' := fun i hi hn => by
  rw [h' i hi (by rw [h i hi hn]; exact hn), h i hi hn]

theorem Stay.refl {W : Nat → Prop} {μ : Mem} : Stay W μ μ := fun _ _ _ => rfl

theorem isAllocR_spec {r : ROp} (h : isAllocR r = true) : ∃ z zs, r.guard = none ∧ r.ao = .alloc (z :: zs) := by
  unfold isAllocR at h
  simp only [Bool.and_eq_true, Option.isNone_iff_eq_none] at h
  obtain ⟨h1, h2⟩ := h
  split at h2
  · rename_i z zs hz; exact ⟨z, zs, h1, hz⟩
  · cases h2

theorem stepA_alloc {P : Program} {r : ROp} {K : St → Prop} {KP : PV → St → Prop} {σ : St} {zs : List PV} (hg : r.guard = none) (ha : r.ao = .alloc zs) :
    stepA P r K KP σ = ∀ i, Fresh σ.μ σ.L i → K (St.put { σ with μ := σ.μ.set i (.cells zs) } r.dst (.ptr i 0)) := by
  unfold stepA
  rw [hg, ha]
  rfl

theorem set_comm {μ : Mem} {i j : Nat} {o o' : AObj} (h : i ≠ j) : (μ.set i o).set j o' = (μ.set j o').set i o := by
  funext x
  simp only [Mem.set]
  by_cases e1 : x = j
  · subst e1
    have : ¬ x = i := fun e => h e.symm
    simp [this]
  · simp [e1]

/-- A new object before a call, or behind it. -/
theorem swapWA {P : Program} {W : Nat → Prop} {a b : ROp} {K : St → Prop} {KP : PV → St → Prop} {σ : St} (f1 : b.free a.dst) (f2 : ∀ n, b.dst = some n → n ∉ a.regs) (hb : isAllocR b = true) (ha : isCallR a = true ∨ isAllocR a = true) (ht : TI KP)
    (h : stepW P W a (stepW P W b K KP) KP σ) : stepW P W b (stepW P W a K KP) KP σ := by
  obtain ⟨z, zs, bg, bo⟩ := isAllocR_spec hb
  have hdd : ∀ n, b.dst = some n → a.dst ≠ some n := by
    intro n hn ha
    exact (f1 n ha).2 hn
  have fa : a.free b.dst := fun n hn => ⟨f2 n hn, hdd n hn⟩
  have cb : Nat.ble b.cls 2 = false := by unfold ROp.cls; rw [bg, bo]; rfl
  have hcom : ∀ (σ' : St) (v u : PV) (μ' : Mem), St.put { (σ'.put a.dst v) with μ := μ' } b.dst u = (St.put { σ' with μ := μ' } b.dst u).put a.dst v := by
    intro σ' v u μ'
    have : ({ (σ'.put a.dst v) with μ := μ' } : St) = St.put { σ' with μ := μ' } a.dst v := by cases a.dst <;> rfl
    rw [this, put_comm (fun n hn => fun e => (f1 n hn).2 e)]
  have gx : ∀ {i j : Nat} {μ : Mem} {L : Lv} {o : AObj}, Fresh (μ.set i o) L j → j ≠ i ∧ Fresh μ L j := by
    intro i j μ L o hf
    have hne : j ≠ i := fun e => by have := hf.1; rw [e] at this; simp [Mem.set] at this
    refine ⟨hne, ?_, hf.2⟩
    have := hf.1
    simpa [Mem.set, hne] using this
  have stayset : ∀ {μ : Mem} {L : Lv} {i : Nat} {o : AObj}, Fresh μ L i → Stay W μ (μ.set i o) := by
    intro μ L i o hf x _ hx
    have : x ≠ i := fun e => hx (by rw [e]; exact hf.1)
    simp [Mem.set, this]
  rcases ha with ha | ha
  · -- a call
    have ca3 : a.ao.cls = 3 := by
      unfold isCallR at ha
      split at ha
      · rename_i f args e; rw [e]; rfl
      · cases ha
    have ca : Nat.ble a.cls 2 = false := by
      unfold ROp.cls
      split <;> rw [ca3] <;> rfl
    have h := h.2 ca
    refine ⟨fun hc => (by rw [cb] at hc; cases hc), fun _ => ?_⟩
    rw [stepA_alloc bg bo]
    intro i hi
    refine ⟨.of (by rw [put_t]; exact stayset hi), fun hc => (by rw [ca] at hc; cases hc), fun _ => ?_⟩
    rw [stepA_put fa]
    have hao : ∃ f args, a.ao = .call f args := by
      unfold isCallR at ha
      split at ha
      · rename_i f args e; exact ⟨f, args, e⟩
      · cases ha
    obtain ⟨f, args, hao⟩ := hao
    unfold stepA at h ⊢
    simp only at h ⊢
    split at h
    · exact h.elim
    · rename_i hg
      obtain ⟨h1, h2⟩ := h
      have h2 := h2.2 cb
      rw [stepA_alloc bg bo] at h2
      have h3 := h2 i (by rw [put_t]; cases a.dst <;> exact hi)
      refine ⟨.of (by simp only [put_t]; exact Stay.refl), ?_⟩
      have h4 := h3.2
      rw [hcom] at h4
      rw [put_t] at h4
      rw [put_comm (fun n hn => fun e => (f1 n hn).2 e)]
      exact h4
    · rw [hao] at h ⊢
      simp only at h ⊢
      refine callA_mono (callA.frame1 (by simp) hi h) ?_ (fun p μ' L' hp => ht.put hp)
      rintro v μ' L' ⟨μ'', rfl, hf, hk1, hk2⟩
      have hk1 := hk1.stay (call_noStore ha)
      rw [put_t] at hk1
      have hk2 := hk2.2 cb
      rw [stepA_alloc bg bo] at hk2
      have h3 := hk2 i (by rw [put_t]; cases a.dst <;> exact hf)
      refine ⟨.of ?_, ?_⟩
      · rw [put_t, put_t, put_t]
        intro x hx hn
        by_cases e : x = i
        · subst e; simp [Mem.set]
        · simp only [Mem.set, e, if_false] at hn ⊢
          exact hk1 x hx hn
      · have h4 := h3.2
        rw [hcom] at h4
        rw [put_t] at h4
        rw [put_comm (fun n hn => fun e => (f1 n hn).2 e)]
        exact h4
  · -- two new objects
    obtain ⟨y, ys, ag, ao⟩ := isAllocR_spec ha
    have ca : Nat.ble a.cls 2 = false := by unfold ROp.cls; rw [ag, ao]; rfl
    have h := h.2 ca
    rw [stepA_alloc ag ao] at h
    refine ⟨fun hc => (by rw [cb] at hc; cases hc), fun _ => ?_⟩
    rw [stepA_alloc bg bo]
    intro i hi
    refine ⟨.of (by rw [put_t]; exact stayset hi), fun hc => (by rw [ca] at hc; cases hc), fun _ => ?_⟩
    rw [stepA_alloc ag ao]
    intro j hj
    rw [put_t] at hj
    have hj' : Fresh (σ.μ.set i (.cells (z :: zs))) σ.L j := by cases hbd : b.dst <;> rw [hbd] at hj <;> exact hj
    obtain ⟨hne, hj0⟩ := gx hj'
    obtain ⟨_, h2⟩ := h j hj0
    have h2 := h2.2 cb
    rw [stepA_alloc bg bo] at h2
    have hi2 : Fresh (σ.μ.set j (.cells (y :: ys))) σ.L i := ⟨by have := hi.1; have hn : i ≠ j := fun e => hne e.symm; simp [Mem.set, hn, this], hi.2⟩
    have h3 := (h2 i (by rw [put_t]; cases a.dst <;> exact hi2)).2
    rw [hcom, put_t] at h3
    refine ⟨.of (by rw [put_t, put_t]; exact stayset hj'), ?_⟩
    have e : St.put { (St.put { σ with μ := σ.μ.set i (.cells (z :: zs)) } b.dst (.ptr i 0)) with μ := (St.put { σ with μ := σ.μ.set i (.cells (z :: zs)) } b.dst (.ptr i 0)).μ.set j (.cells (y :: ys)) } a.dst (.ptr j 0) =
        (St.put { σ with μ := (σ.μ.set j (.cells (y :: ys))).set i (.cells (z :: zs)) } b.dst (.ptr i 0)).put a.dst (.ptr j 0) := by
      rw [put_t]
      congr 1
      rw [set_comm hne]
      cases b.dst <;> rfl
    rw [e]
    exact h3

theorem swapW {P : Program} {W : Nat → Prop} {a b : ROp} {K : St → Prop} {KP : PV → St → Prop} {σ : St} (hp : okPairW a b = true) (ht : TI KP) (h : stepW P W a (stepW P W b K KP) KP σ) : stepW P W b (stepW P W a K KP) KP σ := by
  obtain ⟨f1, f2, f3⟩ := okPairW_spec hp
  have hdd : ∀ n, b.dst = some n → a.dst ≠ some n := by
    intro n hn ha
    exact (f1 n ha).2 hn
  have fa : a.free b.dst := fun n hn => ⟨f2 n hn, hdd n hn⟩
  cases ca : Nat.ble a.cls 2 with
  | true =>
    obtain ⟨wa, h⟩ := h.1 ca
    rw [stepA_val ca] at h
    obtain ⟨va, q1, h⟩ := h
    refine ⟨fun cb => ?_, fun cb => ?_⟩
    · obtain ⟨wb, h⟩ := h.1 cb
      rw [stepA_val cb] at h
      obtain ⟨vb, q2, h⟩ := h
      have cg : ∀ μ', valA b (σ.put a.dst va).t μ' = valA b σ.t μ' := fun μ' => valA_congr (agree_put (fun n hn => (f1 n hn).1))
      refine ⟨fun μ' hμ => ?_, ?_⟩
      · have := wb μ' (by rw [put_t]; exact hμ)
        rwa [cg, cg, put_t] at this
      · rw [stepA_val cb]
        refine ⟨vb, by rw [← q2, put_t, cg], ?_⟩
        have cga : ∀ μ', valA a (σ.put b.dst vb).t μ' = valA a σ.t μ' := fun μ' => valA_congr (agree_put f2)
        refine ⟨fun _ => ⟨fun μ' hμ => ?_, ?_⟩, fun hc => by rw [ca] at hc; cases hc⟩
        · rw [put_t] at hμ ⊢
          rw [cga, cga]
          exact wa μ' hμ
        · rw [stepA_val ca]
          refine ⟨va, by rw [put_t, cga]; exact q1, ?_⟩
          rw [put_comm hdd]; exact h
    · have h := h.2 cb
      rw [stepA_put f1] at h
      refine stepA_at ?_ (fun p σ' hk => ht.unput hk) h
      intro σ' hσ' hk
      have hW : StayR b W σ.μ σ'.μ := by have := hk.1; rwa [put_t, put_t] at this
      have cg : ∀ μ', valA a σ'.t μ' = valA a σ.t μ' := fun μ' => valA_congr (fun n hn => hσ' n (fun e => f2 n e hn))
      have h1 : Nat.ble a.cls 1 = true ∨ isStoreR b = false := by
        rcases f3 with e | e | e | e
        · exact .inl e
        · exact .inr e.2
        · rw [e] at cb; cases cb
        · exact .inr (alloc_noStore e.1)
      have hv : valA a σ'.t σ'.μ = valA a σ.t σ.μ := by
        rw [cg]
        rcases h1 with e | e
        · exact valA_mem e
        · exact wa _ (hW.stay e)
      refine ⟨hW, fun _ => ⟨fun μ' hμ => ?_, ?_⟩, fun hc => (by rw [ca] at hc; cases hc)⟩
      · rcases h1 with e | e
        · exact valA_mem e
        · rw [hv, cg]
          exact wa μ' ((hW.stay e).trans hμ)
      · rw [stepA_val ca]
        exact ⟨va, by rw [hv, q1], hk.2⟩
  | false =>
    rcases f3 with e | e | c1 | ⟨e1, e2⟩
    · have := Nat.le_of_ble_eq_true e
      rw [Nat.ble_eq_true_of_le (by omega)] at ca; cases ca
    · rw [ca] at e; cases e.1
    · have c2 : Nat.ble b.cls 2 = true := by rw [c1]; rfl
      have c3 : Nat.ble b.cls 1 = true := by rw [c1]; rfl
      have h := h.2 ca
      obtain ⟨vb, qb⟩ := valA_total σ.t σ.μ c1
      refine ⟨fun _ => ⟨fun μ' _ => valA_mem c3, ?_⟩, fun hc => by rw [c2] at hc; cases hc⟩
      rw [stepA_val c2]
      refine ⟨vb, qb, ⟨fun hc => (by rw [ca] at hc; cases hc), fun _ => ?_⟩⟩
      rw [stepA_put fa]
      refine stepA_at ?_ (fun p σ' hk => ht.put hk) h
      intro σ' hσ' hk
      have hk2 := (hk.2.1 c2).2
      rw [stepA_val c2] at hk2
      obtain ⟨v', q', hk2⟩ := hk2
      have : valA b σ'.t σ'.μ = valA b σ.t σ.μ := by
        rw [valA_mem (μ' := σ.μ) c3]
        refine valA_congr ?_
        intro n hn
        exact hσ' n (fun e => (f1 n e).1 hn)
      rw [this, qb] at q'
      cases q'
      exact ⟨by rw [put_t, put_t]; exact hk.1, hk2⟩
    · exact swapWA f1 f2 e1 e2 ht h

theorem toFrontW {P : Program} {W : Nat → Prop} {KP : PV → St → Prop} {r : ROp} (ht : TI KP) : ∀ (as : List ROp) (bs : List ROp) {K : St → Prop} {σ : St}, (∀ a ∈ as, okPairW a r = true) → runW P W (as ++ r :: bs) K KP σ → runW P W (r :: (as ++ bs)) K KP σ
  | [], bs, K, σ, _, h => h
  | a :: as, bs, K, σ, hok, h => by
    have h1 : stepW P W a (runW P W (r :: (as ++ bs)) K KP) KP σ := stepW_mono (fun σ' hh => toFrontW ht as bs (fun x hx => hok x (List.mem_cons_of_mem _ hx)) hh) h
    exact swapW (hok a (List.mem_cons_self ..)) ht h1

theorem stepV_W {P : Program} {W : Nat → Prop} {r : ROp} {K : St → Prop} {KP : PV → St → Prop} {σ : St} (h : stepV P W r K KP σ) : stepW P W r K KP σ := by
  refine ⟨fun hc => ⟨fun μ' hμ => ?_, stepA_mono (fun _ hh => hh.2) (fun _ _ h => h) h.2⟩, fun _ => h.2⟩
  have h1 := h.1
  unfold valA
  split
  · rfl
  · rfl
  · rename_i hg
    have h1 := h1 hg
    split
    · rename_i agg x hx
      rw [hx] at h1
      simp only [watA] at h1
      split at h1
      · rename_i hr; simp only [hr]
      · rename_i i off hr
        simp only [hr]
        have hs := h.2
        have : σ.μ i ≠ none := by
          intro hn
          unfold stepA at hs
          rw [hg, hx] at hs
          simp only [opM, hr, hn] at hs
          obtain ⟨cs, v, e, _⟩ := hs
          cases e
        rw [hμ i h1 this]
      · exact h1.elim
    · rfl

theorem runV_W {P : Program} {W : Nat → Prop} {KP : PV → St → Prop} : ∀ {rs : List ROp} {K : St → Prop} {σ : St}, runV P W rs K KP σ → runW P W rs K KP σ
  | [], _, _, h => h
  | _ :: _, _, _, h => stepW_mono (fun _ hh => runV_W hh) (stepV_W h)

end Go.Bm

/- The second abstract machine: every order that keeps the edges does what the order of the text does; code does what it says. -/
namespace Go.Bm
open Go

section
variable {P : Program} {nt : Nat}

/-- What is known of the operations of a region. -/
structure RegOk (P : Program) (nt : Nat) (ops : Array Oper) (rs : List ROp) : Prop where
  res : ∀ (i : Nat) o, ops[i]? = some o → ∃ r, rs[i]? = some r ∧ resolveOp P nt ops r.pre o = some r.erase
  len : rs.length = ops.size
  clo : ∀ (i : Nat) o r, ops[i]? = some o → rs[i]? = some r → (∀ q ∈ edgesOf o, q ∈ r.pre) ∧ ∀ p ∈ r.pre, p ∈ edgesOf o ∨ ∃ q r', q ∈ edgesOf o ∧ rs[q]? = some r' ∧ p ∈ r'.pre
  pair : ∀ (k i : Nat) a r, k < i → rs[k]? = some a → rs[i]? = some r → k ∈ r.pre ∨ okPair a r = true
  lt : ∀ (i : Nat) o r, ops[i]? = some o → rs[i]? = some r → ∀ p ∈ r.pre, p < i

theorem resolveOp_pre {ops : Array Oper} {pre : List Nat} {o : Oper} {r : ROp} (h : resolveOp P nt ops pre o = some r) : r.pre = pre := by
  unfold resolveOp at h
  split at h
  · split at h
    · cases h; rfl
    · cases h; rfl
  · cases h

theorem resolveOps_spec {ops : Array Oper} {draw : Bool} : ∀ {os : List Oper} {acc : List (List Nat)} {rs : List ROp}, resolveOps P nt ops draw acc os = some rs → rs.length = os.length ∧
    ∀ (k : Nat) o, os[k]? = some o → ∃ r, rs[k]? = some r ∧ resolveOp P nt ops r.pre o = some r ∧ (draw = true → r.pre = closeL (acc ++ (rs.take k).map (·.pre)) (edgesOf o))
  | [], acc, rs, h => by simp [resolveOps] at h; subst h; simp
  | o :: os, acc, rs, h => by
    simp only [resolveOps] at h
    split at h
    · rename_i r rs' h1 h2
      cases h
      obtain ⟨g1, g2⟩ := resolveOps_spec h2
      have hp := resolveOp_pre h1
      refine ⟨by simp [g1], ?_⟩
      intro k o' hk
      cases k with
      | zero =>
        simp only [List.getElem?_cons_zero, Option.some.injEq] at hk
        subst hk
        refine ⟨r, by simp, by rw [hp]; exact h1, fun hd => ?_⟩
        rw [hp, hd]; simp
      | succ k =>
        simp only [List.getElem?_cons_succ] at hk
        obtain ⟨r', q1, q2, q3⟩ := g2 k o' hk
        refine ⟨r', by simpa using q1, q2, fun hd => ?_⟩
        rw [q3 hd]
        congr 1
        simp only [List.take_succ_cons, List.map_cons, hp]
        rw [List.append_assoc]
        rfl
    · cases h

theorem okFrom_spec {i : Nat} {r : ROp} : ∀ {as : List ROp} {k0 : Nat}, okFrom i r k0 as = true → ∀ (j : Nat) a, as[j]? = some a → (k0 + j) ∈ r.pre ∨ okPair a r = true
  | [], _, _, j, a, hj => by simp at hj
  | b :: as, k0, h, j, a, hj => by
    simp only [okFrom, Bool.and_eq_true, Bool.or_eq_true] at h
    cases j with
    | zero =>
      simp only [List.getElem?_cons_zero, Option.some.injEq] at hj
      subst hj
      rcases h.1 with h1 | h1
      · exact .inl (by simpa using h1)
      · exact .inr h1
    | succ j =>
      simp only [List.getElem?_cons_succ] at hj
      have := okFrom_spec h.2 j a hj
      rwa [show k0 + 1 + j = k0 + (j + 1) by omega] at this

theorem okRegion_spec : ∀ {rs done : List ROp}, okRegion done rs = true → ∀ (i : Nat) r, rs[i]? = some r → okFrom (done.length + i) r 0 (done ++ rs.take i) = true ∧ ∀ p ∈ r.pre, p < done.length + i
  | [], _, _, i, r, hi => by simp at hi
  | a :: rs, done, h, i, r, hi => by
    simp only [okRegion, Bool.and_eq_true] at h
    cases i with
    | zero =>
      simp only [List.getElem?_cons_zero, Option.some.injEq] at hi
      subst hi
      refine ⟨by simpa using h.1.1, ?_⟩
      intro p hp
      have := List.all_eq_true.1 h.1.2 p hp
      simpa using Nat.blt_eq ▸ this
    | succ i =>
      simp only [List.getElem?_cons_succ] at hi
      have := okRegion_spec h.2 i r hi
      simp only [List.length_append, List.length_cons, List.length_nil, List.append_assoc, List.cons_append, List.nil_append, List.take_succ_cons, Nat.zero_add] at this ⊢
      refine ⟨by rw [show done.length + (i + 1) = done.length + 1 + i by omega]; exact this.1, fun p hp => by have := this.2 p hp; omega⟩

theorem dress_spec {rs0 rs : List ROp} (he : rs0 = rs.map ROp.erase) {k : Nat} {r0 : ROp} (h : rs0[k]? = some r0) : ∃ r, rs[k]? = some r ∧ r0 = r.erase := by
  subst he
  simp only [List.getElem?_map, Option.map_eq_some_iff] at h
  obtain ⟨r, h1, h2⟩ := h
  exact ⟨r, h1, h2.symm⟩

theorem resolveOps_specE {ops : Array Oper} {draw : Bool} {os : List Oper} {rs : List ROp} (h : resolveOps P nt ops draw [] os = some (rs.map ROp.erase)) : rs.length = os.length ∧
    ∀ (k : Nat) o, os[k]? = some o → ∃ r, rs[k]? = some r ∧ resolveOp P nt ops r.pre o = some r.erase ∧ (draw = true → r.pre = closeL ((rs.take k).map (·.pre)) (edgesOf o)) := by
  obtain ⟨g1, g2⟩ := resolveOps_spec h
  refine ⟨by simpa using g1, fun k o hk => ?_⟩
  obtain ⟨r0, q1, q2, q3⟩ := g2 k o hk
  obtain ⟨r, h1, rfl⟩ := dress_spec rfl q1
  refine ⟨r, h1, q2, fun hd => ?_⟩
  have := q3 hd
  rw [List.nil_append, ← List.map_take, List.map_map] at this
  exact this

theorem regOk {ops : Array Oper} {rs : List ROp} (h : resolveOps P nt ops true [] ops.toList = some (rs.map ROp.erase)) (hk : okRegion [] rs = true) : RegOk P nt ops rs := by
  obtain ⟨g1, g2⟩ := resolveOps_specE h
  have hlen : rs.length = ops.size := by simpa using g1
  have hg : ∀ (i : Nat) o, ops[i]? = some o → ∃ r, rs[i]? = some r ∧ resolveOp P nt ops r.pre o = some r.erase ∧ r.pre = closeL ((rs.take i).map (·.pre)) (edgesOf o) := by
    intro i o hi
    obtain ⟨r, q1, q2, q3⟩ := g2 i o (by simpa using hi)
    exact ⟨r, q1, q2, by simpa using q3 rfl⟩
  have hlt : ∀ (i : Nat) o r, ops[i]? = some o → rs[i]? = some r → ∀ p ∈ r.pre, p < i := by
    intro i o r _ hr p hp
    have := (okRegion_spec hk i r hr).2 p hp
    simpa using this
  refine ⟨fun i o hi => ?_, hlen, ?_, ?_, hlt⟩
  · obtain ⟨r, q1, q2, _⟩ := hg i o hi; exact ⟨r, q1, q2⟩
  · intro i o r hi hr
    obtain ⟨r', q1, q2, q3⟩ := hg i o hi
    rw [hr] at q1; cases q1
    refine ⟨fun q hq => by rw [q3]; exact mem_dd.2 (List.mem_append_left _ hq), ?_⟩
    intro p hp
    rw [q3] at hp
    rcases List.mem_append.1 (mem_dd.1 hp) with hp | hp
    · exact .inl hp
    · simp only [List.mem_flatMap] at hp
      obtain ⟨q, hq, hp⟩ := hp
      rw [List.getD_eq_getElem?_getD] at hp
      cases hx : ((rs.take i).map (·.pre))[q]? with
      | none => rw [hx] at hp; simp at hp
      | some l =>
        rw [hx] at hp
        simp only [List.getElem?_map, Option.map_eq_some_iff] at hx
        obtain ⟨r', h1, rfl⟩ := hx
        rw [List.getElem?_take] at h1
        split at h1
        · exact .inr ⟨q, r', hq, h1, hp⟩
        · cases h1
  · intro k i a r hki ha hr
    have := okFrom_spec (okRegion_spec hk i r hr).1 k a (by simp only [List.nil_append]; rw [List.getElem?_take, if_pos hki]; exact ha)
    simpa using this

theorem getElem?_setIfInBounds'_b (tm : Array Bool) (d s : Nat) (v : Bool) : (tm.setIfInBounds d v)[s]? = if s = d ∧ d < tm.size then some v else tm[s]? := by
  simp only [Array.getElem?_setIfInBounds]
  by_cases h : d = s
  · subst h
    by_cases hl : d < tm.size
    · simp [hl]
    · simp [hl]
  · have : ¬ s = d := fun e => h e.symm
    simp [h, this]

/-- Every order. -/
theorem any_sound {ro : Option Nat} {ops : Array Oper} {rs : List ROp} (hok : RegOk P nt ops rs) {K : St → Prop} {KP : PV → St → Prop} {Q : Exit → Act → World → Prop} {G0 : Gh} {w0 : World} (ht : TI KP) (hQ : ∀ a w, Holds nt G0 w0 K a w → Q .normal a w) (hP : ∀ chain a w, HoldsP nt G0 w0 KP chain a w → Q (.panic chain) a w) (hd : ro = none ∨ ∀ (i : Nat) o, ops[i]? = some o → ∀ c, o.op ≠ .defer c) :
    ∀ (fuel : Nat) (rem : List Nat) (listed : Array Bool) {σ : St} {G : Gh} {a : Act} {w : World}, rem.length = fuel → rem.Pairwise (· < ·) → (∀ i, i ∈ rem ↔ i < ops.size ∧ listed.getD i true = false) → listed.size = ops.size →
      (∀ (q : Nat) r, q < ops.size → listed.getD q true = true → rs[q]? = some r → ∀ p ∈ r.pre, listed.getD p true = true) →
      runA P (rem.filterMap (rs[·]?)) K KP σ → Mean nt G σ a w → Evo G0 w0 G w → wpAnyIn (FW ro) 0 P .any ops Q fuel listed a w := by
  have nil : ∀ {listed : Array Bool} {σ : St} {G : Gh} {a : Act} {w : World}, K σ → Mean nt G σ a w → Evo G0 w0 G w → Q .normal a w := fun h1 h2 h3 => hQ _ _ ⟨_, _, h1, h2, h3⟩
  have hready : ∀ {listed : Array Bool} {i : Nat}, i ∈ Region.ready .any ops listed ↔ ∃ o, ops[i]? = some o ∧ listed.getD i true = false ∧ ∀ q ∈ edgesOf o, listed.getD q false = true := by
    intro listed i
    simp only [Region.ready, List.mem_filter, List.mem_range, Bool.and_eq_true, Bool.not_eq_true']
    constructor
    · rintro ⟨h1, h2, h3⟩
      have ho : ops[i]? = some ops[i] := Array.getElem?_eq_getElem h1
      refine ⟨ops[i], ho, h2, ?_⟩
      rw [ho] at h3
      simp only [Option.map_some, Option.getD_some, Array.all_eq_true_iff_forall_mem, Bool.or_eq_true, Bool.not_eq_true'] at h3
      intro q hq
      simp only [edgesOf, List.mem_map, List.mem_filter] at hq
      obtain ⟨e, ⟨he, hb⟩, rfl⟩ := hq
      rcases h3 e (by simpa using he) with h4 | h4
      · rw [hb] at h4; cases h4
      · exact h4
    · rintro ⟨o, ho, h2, h3⟩
      refine ⟨(Array.getElem?_eq_some_iff.1 ho).1, h2, ?_⟩
      rw [ho]
      simp only [Option.map_some, Option.getD_some, Array.all_eq_true_iff_forall_mem, Bool.or_eq_true, Bool.not_eq_true']
      intro e he
      cases hb : Region.binds .any e with
      | false => exact .inl rfl
      | true => exact .inr (h3 e.on (by simp only [edgesOf, List.mem_map, List.mem_filter]; exact ⟨e, ⟨by simpa using he, hb⟩, rfl⟩))
  intro fuel
  induction fuel with
  | zero =>
    intro rem listed σ G a w hl hs hm hsz hc hr hM hev
    have : rem = [] := List.eq_nil_of_length_eq_zero hl
    subst this
    refine ⟨?_, nil (listed := listed) hr hM hev⟩
    apply List.eq_nil_iff_forall_not_mem.2
    intro i hi
    obtain ⟨o, ho, h2, _⟩ := hready.1 hi
    have := (hm i).2 ⟨(Array.getElem?_eq_some_iff.1 ho).1, h2⟩
    simp at this
  | succ fuel ih =>
    intro rem listed σ G a w hl hs hm hsz hc hr hM hev
    have hlistD : ∀ q, q < ops.size → listed.getD q true = listed.getD q false := by
      intro q hq
      simp [Array.getD, hsz, hq]
    constructor
    · -- the first of what is left is ready
      intro hnil
      exfalso
      match rem, hl with
      | i :: rem', _ =>
        obtain ⟨hi1, hi2⟩ := (hm i).1 (by simp)
        have ho : ops[i]? = some ops[i] := Array.getElem?_eq_getElem hi1
        obtain ⟨r, hr1, _⟩ := hok.res i _ ho
        have hmem : i ∈ Region.ready .any ops listed := by
          refine hready.2 ⟨_, ho, hi2, ?_⟩
          intro q hq
          have hqp := (hok.clo i _ r ho hr1).1 q hq
          have hqi := hok.lt i _ r ho hr1 q hqp
          rw [← hlistD q (by omega)]
          cases hb : listed.getD q true with
          | true => rfl
          | false =>
            have hqr := (hm q).2 ⟨by omega, hb⟩
            rcases List.mem_cons.1 hqr with e | e
            · omega
            · have := (List.pairwise_cons.1 hs).1 q e
              omega
        rw [hnil] at hmem
        simp at hmem
    · intro i hi
      obtain ⟨o, ho, h2, h3⟩ := hready.1 hi
      have hin := (Array.getElem?_eq_some_iff.1 ho).1
      obtain ⟨r, hr1, hr2⟩ := hok.res i o ho
      have himem := (hm i).2 ⟨hin, h2⟩
      obtain ⟨s, t, rfl⟩ := List.append_of_mem himem
      have hsorted := List.pairwise_append.1 hs
      -- what has been done is closed
      have hedge : ∀ q ∈ edgesOf o, q < ops.size ∧ listed.getD q true = true := by
        intro q hq
        have hlt := hok.lt i o r ho hr1 q ((hok.clo i o r ho hr1).1 q hq)
        exact ⟨by omega, by rw [hlistD q (by omega)]; exact h3 q hq⟩
      have hpre : ∀ p ∈ r.pre, listed.getD p true = true := by
        intro p hp
        rcases (hok.clo i o r ho hr1).2 p hp with h4 | ⟨q, r', h4, h5, h6⟩
        · exact (hedge p h4).2
        · exact hc q r' (hedge q h4).1 (hedge q h4).2 h5 p h6
      have hfront : runA P (r :: (s.filterMap (rs[·]?) ++ t.filterMap (rs[·]?))) K KP σ := by
        rw [List.filterMap_append, List.filterMap_cons, hr1] at hr
        refine toFront ht _ _ ?_ hr
        intro b hb
        simp only [List.mem_filterMap] at hb
        obtain ⟨k, hk, hkb⟩ := hb
        have hki : k < i := hsorted.2.2 k hk i (by simp)
        rcases hok.pair k i b r hki hkb hr1 with h4 | h4
        · have h5 := hpre k h4
          have := ((hm k).1 (by simp [hk])).2
          rw [h5] at this; cases this
        · exact h4
      have hstep := step_sound (Q := Q) (i := i) ho hr2 hfront hM (fun chain a' w' hh => hP _ _ _ (hh.base hev)) (hd.imp id (fun h => h i o ho))
      refine wpOpIn_mono ?_ hstep
      intro a' w' hh
      obtain ⟨σ', G', k1, k2, k3⟩ := hh
      have hget : ∀ q, (listed.setIfInBounds i true).getD q true = if q = i then true else listed.getD q true := by
        intro q
        rw [Array.getD_eq_getD_getElem?, getElem?_setIfInBounds'_b, Array.getD_eq_getD_getElem?]
        by_cases hq : q = i
        · subst hq
          rw [if_pos ⟨rfl, by omega⟩]; simp
        · rw [if_neg (fun e => hq e.1), if_neg hq]
      refine ih (s ++ t) _ (by simp at hl ⊢; omega) ?_ ?_ (by simpa using hsz) ?_ (by rw [List.filterMap_append]; exact k1) k2 (hev.trans k3)
      · refine List.pairwise_append.2 ⟨hsorted.1, (List.pairwise_cons.1 hsorted.2.1).2, fun x hx y hy => hsorted.2.2 x hx y (by simp [hy])⟩
      · intro q
        rw [hget]
        have hnot : i ∉ s ∧ i ∉ t := by
          refine ⟨fun h => ?_, fun h => ?_⟩
          · have := hsorted.2.2 i h i (by simp); omega
          · have := (List.pairwise_cons.1 hsorted.2.1).1 i h; omega
        constructor
        · intro hq
          have hqi : q ≠ i := by
            rintro rfl
            rcases List.mem_append.1 hq with h | h
            · exact hnot.1 h
            · exact hnot.2 h
          rw [if_neg hqi]
          refine (hm q).1 ?_
          rcases List.mem_append.1 hq with h | h
          · simp [h]
          · simp [h]
        · rintro ⟨h4, h5⟩
          by_cases hqi : q = i
          · rw [if_pos hqi] at h5; cases h5
          · rw [if_neg hqi] at h5
            have := (hm q).2 ⟨h4, h5⟩
            rcases List.mem_append.1 this with h | h
            · simp [h]
            · rcases List.mem_cons.1 h with h | h
              · exact absurd h hqi
              · simp [h]
      · intro q r' hq1 hq2 hq3 p hp
        rw [hget] at hq2 ⊢
        by_cases hpi : p = i
        · rw [if_pos hpi]
        · rw [if_neg hpi]
          by_cases hqi : q = i
          · subst hqi
            rw [hr1] at hq3; cases hq3
            exact hpre p hp
          · rw [if_neg hqi] at hq2
            exact hc q r' hq1 hq2 hq3 p hp
end
end Go.Bm

/- The second abstract machine: every order that keeps the edges does what a chosen order does, where loads read what calls keep. -/
namespace Go.Bm
open Go

section
variable {P : Program} {nt : Nat}

/-- What is known of the operations of a region, in a chosen order. -/
structure OrdOk (P : Program) (nt : Nat) (ops : Array Oper) (rs : List ROp) (pos : Nat → Nat) : Prop where
  res : ∀ (i : Nat) o, ops[i]? = some o → ∃ r, rs[i]? = some r ∧ resolveOp P nt ops r.pre o = some r.erase
  len : rs.length = ops.size
  clo : ∀ (i : Nat) o r, ops[i]? = some o → rs[i]? = some r → (∀ q ∈ edgesOf o, q ∈ r.pre) ∧ ∀ p ∈ r.pre, p ∈ edgesOf o ∨ ∃ q r', q ∈ edgesOf o ∧ rs[q]? = some r' ∧ p ∈ r'.pre
  pair : ∀ (k i : Nat) a r, pos k < pos i → rs[k]? = some a → rs[i]? = some r → k ∈ r.pre ∨ okPairW a r = true
  lt : ∀ (i : Nat) o r, ops[i]? = some o → rs[i]? = some r → ∀ p ∈ r.pre, p < i
  ltp : ∀ (i : Nat) o r, ops[i]? = some o → rs[i]? = some r → ∀ p ∈ r.pre, pos p < pos i

theorem any_soundW {ro : Option Nat} {ops : Array Oper} {rs : List ROp} {pos : Nat → Nat} {W : Nat → Prop} (hok : OrdOk P nt ops rs pos) {K : St → Prop} {KP : PV → St → Prop} {Q : Exit → Act → World → Prop} {G0 : Gh} {w0 : World} (ht : TI KP) (hQ : ∀ a w, Holds nt G0 w0 K a w → Q .normal a w) (hP : ∀ chain a w, HoldsP nt G0 w0 KP chain a w → Q (.panic chain) a w) (hd : ro = none ∨ ∀ (i : Nat) o, ops[i]? = some o → ∀ c, o.op ≠ .defer c) :
    ∀ (fuel : Nat) (rem : List Nat) (listed : Array Bool) {σ : St} {G : Gh} {a : Act} {w : World}, rem.length = fuel → rem.Pairwise (fun x y => pos x < pos y) → (∀ i, i ∈ rem ↔ i < ops.size ∧ listed.getD i true = false) → listed.size = ops.size →
      (∀ (q : Nat) r, q < ops.size → listed.getD q true = true → rs[q]? = some r → ∀ p ∈ r.pre, listed.getD p true = true) →
      runW P W (rem.filterMap (rs[·]?)) K KP σ → Mean nt G σ a w → Evo G0 w0 G w → wpAnyIn (FW ro) 0 P .any ops Q fuel listed a w := by
  have nil : ∀ {listed : Array Bool} {σ : St} {G : Gh} {a : Act} {w : World}, K σ → Mean nt G σ a w → Evo G0 w0 G w → Q .normal a w := fun h1 h2 h3 => hQ _ _ ⟨_, _, h1, h2, h3⟩
  have hready : ∀ {listed : Array Bool} {i : Nat}, i ∈ Region.ready .any ops listed ↔ ∃ o, ops[i]? = some o ∧ listed.getD i true = false ∧ ∀ q ∈ edgesOf o, listed.getD q false = true := by
    intro listed i
    simp only [Region.ready, List.mem_filter, List.mem_range, Bool.and_eq_true, Bool.not_eq_true']
    constructor
    · rintro ⟨h1, h2, h3⟩
      have ho : ops[i]? = some ops[i] := Array.getElem?_eq_getElem h1
      refine ⟨ops[i], ho, h2, ?_⟩
      rw [ho] at h3
      simp only [Option.map_some, Option.getD_some, Array.all_eq_true_iff_forall_mem, Bool.or_eq_true, Bool.not_eq_true'] at h3
      intro q hq
      simp only [edgesOf, List.mem_map, List.mem_filter] at hq
      obtain ⟨e, ⟨he, hb⟩, rfl⟩ := hq
      rcases h3 e (by simpa using he) with h4 | h4
      · rw [hb] at h4; cases h4
      · exact h4
    · rintro ⟨o, ho, h2, h3⟩
      refine ⟨(Array.getElem?_eq_some_iff.1 ho).1, h2, ?_⟩
      rw [ho]
      simp only [Option.map_some, Option.getD_some, Array.all_eq_true_iff_forall_mem, Bool.or_eq_true, Bool.not_eq_true']
      intro e he
      cases hb : Region.binds .any e with
      | false => exact .inl rfl
      | true => exact .inr (h3 e.on (by simp only [edgesOf, List.mem_map, List.mem_filter]; exact ⟨e, ⟨by simpa using he, hb⟩, rfl⟩))
  intro fuel
  induction fuel with
  | zero =>
    intro rem listed σ G a w hl hs hm hsz hc hr hM hev
    have : rem = [] := List.eq_nil_of_length_eq_zero hl
    subst this
    refine ⟨?_, nil (listed := listed) hr hM hev⟩
    apply List.eq_nil_iff_forall_not_mem.2
    intro i hi
    obtain ⟨o, ho, h2, _⟩ := hready.1 hi
    have := (hm i).2 ⟨(Array.getElem?_eq_some_iff.1 ho).1, h2⟩
    simp at this
  | succ fuel ih =>
    intro rem listed σ G a w hl hs hm hsz hc hr hM hev
    have hlistD : ∀ q, q < ops.size → listed.getD q true = listed.getD q false := by
      intro q hq
      simp [Array.getD, hsz, hq]
    constructor
    · -- the first of what is left is ready
      intro hnil
      exfalso
      match rem, hl with
      | i :: rem', _ =>
        obtain ⟨hi1, hi2⟩ := (hm i).1 (by simp)
        have ho : ops[i]? = some ops[i] := Array.getElem?_eq_getElem hi1
        obtain ⟨r, hr1, _⟩ := hok.res i _ ho
        have hmem : i ∈ Region.ready .any ops listed := by
          refine hready.2 ⟨_, ho, hi2, ?_⟩
          intro q hq
          have hqp := (hok.clo i _ r ho hr1).1 q hq
          have hqi := hok.lt i _ r ho hr1 q hqp
          rw [← hlistD q (by omega)]
          cases hb : listed.getD q true with
          | true => rfl
          | false =>
            have hqr := (hm q).2 ⟨by omega, hb⟩
            have hqp' := hok.ltp i _ r ho hr1 q hqp
            rcases List.mem_cons.1 hqr with e | e
            · omega
            · have := (List.pairwise_cons.1 hs).1 q e
              omega
        rw [hnil] at hmem
        simp at hmem
    · intro i hi
      obtain ⟨o, ho, h2, h3⟩ := hready.1 hi
      have hin := (Array.getElem?_eq_some_iff.1 ho).1
      obtain ⟨r, hr1, hr2⟩ := hok.res i o ho
      have himem := (hm i).2 ⟨hin, h2⟩
      obtain ⟨s, t, rfl⟩ := List.append_of_mem himem
      have hsorted := List.pairwise_append.1 hs
      -- what has been done is closed
      have hedge : ∀ q ∈ edgesOf o, q < ops.size ∧ listed.getD q true = true := by
        intro q hq
        have hlt := hok.lt i o r ho hr1 q ((hok.clo i o r ho hr1).1 q hq)
        exact ⟨by omega, by rw [hlistD q (by omega)]; exact h3 q hq⟩
      have hpre : ∀ p ∈ r.pre, listed.getD p true = true := by
        intro p hp
        rcases (hok.clo i o r ho hr1).2 p hp with h4 | ⟨q, r', h4, h5, h6⟩
        · exact (hedge p h4).2
        · exact hc q r' (hedge q h4).1 (hedge q h4).2 h5 p h6
      have hfront : runW P W (r :: (s.filterMap (rs[·]?) ++ t.filterMap (rs[·]?))) K KP σ := by
        rw [List.filterMap_append, List.filterMap_cons, hr1] at hr
        refine toFrontW ht _ _ ?_ hr
        intro b hb
        simp only [List.mem_filterMap] at hb
        obtain ⟨k, hk, hkb⟩ := hb
        have hki : pos k < pos i := hsorted.2.2 k hk i (by simp)
        rcases hok.pair k i b r hki hkb hr1 with h4 | h4
        · have h5 := hpre k h4
          have := ((hm k).1 (by simp [hk])).2
          rw [h5] at this; cases this
        · exact h4
      have hstep := step_sound (Q := Q) (i := i) ho hr2 (stepW_A hfront) hM (fun chain a' w' hh => hP _ _ _ (hh.base hev)) (hd.imp id (fun h => h i o ho))
      refine wpOpIn_mono ?_ hstep
      intro a' w' hh
      obtain ⟨σ', G', k1, k2, k3⟩ := hh
      have hget : ∀ q, (listed.setIfInBounds i true).getD q true = if q = i then true else listed.getD q true := by
        intro q
        rw [Array.getD_eq_getD_getElem?, getElem?_setIfInBounds'_b, Array.getD_eq_getD_getElem?]
        by_cases hq : q = i
        · subst hq
          rw [if_pos ⟨rfl, by omega⟩]; simp
        · rw [if_neg (fun e => hq e.1), if_neg hq]
      refine ih (s ++ t) _ (by simp at hl ⊢; omega) ?_ ?_ (by simpa using hsz) ?_ (by rw [List.filterMap_append]; exact k1) k2 (hev.trans k3)
      · refine List.pairwise_append.2 ⟨hsorted.1, (List.pairwise_cons.1 hsorted.2.1).2, fun x hx y hy => hsorted.2.2 x hx y (by simp [hy])⟩
      · intro q
        rw [hget]
        have hnot : i ∉ s ∧ i ∉ t := by
          refine ⟨fun h => ?_, fun h => ?_⟩
          · have := hsorted.2.2 i h i (by simp); omega
          · have := (List.pairwise_cons.1 hsorted.2.1).1 i h; omega
        constructor
        · intro hq
          have hqi : q ≠ i := by
            rintro rfl
            rcases List.mem_append.1 hq with h | h
            · exact hnot.1 h
            · exact hnot.2 h
          rw [if_neg hqi]
          refine (hm q).1 ?_
          rcases List.mem_append.1 hq with h | h
          · simp [h]
          · simp [h]
        · rintro ⟨h4, h5⟩
          by_cases hqi : q = i
          · rw [if_pos hqi] at h5; cases h5
          · rw [if_neg hqi] at h5
            have := (hm q).2 ⟨h4, h5⟩
            rcases List.mem_append.1 this with h | h
            · simp [h]
            · rcases List.mem_cons.1 h with h | h
              · exact absurd h hqi
              · simp [h]
      · intro q r' hq1 hq2 hq3 p hp
        rw [hget] at hq2 ⊢
        by_cases hpi : p = i
        · rw [if_pos hpi]
        · rw [if_neg hpi]
          by_cases hqi : q = i
          · subst hqi
            rw [hr1] at hq3; cases hq3
            exact hpre p hp
          · rw [if_neg hqi] at hq2
            exact hc q r' hq1 hq2 hq3 p hp

theorem okOrdFrom_spec {ops : List ROp} : ∀ {rest done : List Nat}, okOrdFrom ops done rest = true → ∀ s i t, rest = s ++ i :: t → okAt ops (done ++ s) i = true
  | [], _, _, s, i, t, h => by simp at h
  | j :: rest, done, hk, s, i, t, h => by
    simp only [okOrdFrom, Bool.and_eq_true] at hk
    cases s with
    | nil => simp only [List.nil_append, List.cons.injEq] at h; obtain ⟨rfl, rfl⟩ := h; simpa using hk.1
    | cons a s =>
      simp only [List.cons_append, List.cons.injEq] at h
      obtain ⟨rfl, h⟩ := h
      have := okOrdFrom_spec hk.2 s i t h
      simpa using this

theorem okOrd_nodup {ops : List ROp} : ∀ {rest done : List Nat}, okOrdFrom ops done rest = true → rest.Pairwise (fun x y => x ≠ y) ∧ ∀ i ∈ rest, i ∉ done
  | [], _, _ => ⟨.nil, by simp⟩
  | j :: rest, done, hk => by
    simp only [okOrdFrom, Bool.and_eq_true] at hk
    obtain ⟨h1, h2⟩ := okOrd_nodup hk.2
    have hj : j ∉ done := by
      have := hk.1
      unfold okAt at this
      split at this
      · cases this
      · simp only [Bool.and_eq_true, Bool.not_eq_true'] at this
        simpa using this.2
    refine ⟨.cons (fun y hy e => h2 y hy (by simp [e])) h1, ?_⟩
    intro i hi
    rcases List.mem_cons.1 hi with rfl | hi
    · exact hj
    · exact fun hd => h2 i hi (by simp [hd])

theorem idxOf_ne {α : Type} [DecidableEq α] {a b : α} {l : List α} (h : a ≠ b) : (a :: l).idxOf b = l.idxOf b + 1 := by
  rw [List.idxOf_cons]
  have : (a == b) = false := by simpa using h
  rw [this]; rfl

theorem idx_lt {α : Type} [DecidableEq α] : ∀ {l : List α}, l.Pairwise (fun x y => x ≠ y) → l.Pairwise (fun x y => l.idxOf x < l.idxOf y)
  | [], _ => .nil
  | a :: l, h => by
    rw [List.pairwise_cons] at h ⊢
    refine ⟨fun y hy => ?_, ?_⟩
    · rw [List.idxOf_cons_self, idxOf_ne (h.1 y hy)]; omega
    · refine (idx_lt h.2).imp_of_mem ?_
      intro x y hx hy hxy
      rw [idxOf_ne (h.1 x hx), idxOf_ne (h.1 y hy)]; omega

theorem ord_ok {ops : Array Oper} {rs : List ROp} {ord : List Nat} (h : resolveOps P nt ops true [] ops.toList = some (rs.map ROp.erase)) (hk : okOrd rs ord = true) : OrdOk P nt ops rs (ord.idxOf ·) ∧ ord.Pairwise (fun x y => ord.idxOf x < ord.idxOf y) ∧ ∀ i, i ∈ ord ↔ i < ops.size := by
  simp only [okOrd, Bool.and_eq_true, List.all_eq_true, List.mem_range] at hk
  obtain ⟨hk1, hk2⟩ := hk
  obtain ⟨g1, g2⟩ := resolveOps_specE h
  have hlen : rs.length = ops.size := by simpa using g1
  have hnd := (okOrd_nodup hk1).1
  have hpw := idx_lt hnd
  have hall : ∀ i, i < rs.length → i ∈ ord := fun i hi => by simpa using hk2 i hi
  have hat : ∀ i, i ∈ ord → ∃ s t, ord = s ++ i :: t ∧ (∀ k, k ∈ s ↔ (k ∈ ord ∧ ord.idxOf k < ord.idxOf i)) ∧ okAt rs s i = true := by
    intro i hi
    obtain ⟨s, t, e⟩ := List.append_of_mem hi
    have hp : (s ++ i :: t).Pairwise (fun x y => ord.idxOf x < ord.idxOf y) := by rw [← e]; exact hpw
    rw [List.pairwise_append] at hp
    refine ⟨s, t, e, ?_, by simpa using okOrdFrom_spec hk1 s i t e⟩
    intro k
    constructor
    · intro hks
      exact ⟨by rw [e]; simp [hks], hp.2.2 k hks i (by simp)⟩
    · rintro ⟨h1, h2⟩
      rw [e] at h1
      rcases List.mem_append.1 h1 with h1 | h1
      · exact h1
      · rcases List.mem_cons.1 h1 with rfl | h1
        · omega
        · have := (List.pairwise_cons.1 hp.2.1).1 k h1; omega
  have hlt : ∀ (i : Nat) r, rs[i]? = some r → ∀ p ∈ r.pre, p < i ∧ ord.idxOf p < ord.idxOf i := by
    intro i r hr p hp
    obtain ⟨s, t, e, q1, q2⟩ := hat i (hall i (List.getElem?_eq_some_iff.1 hr).1)
    unfold okAt at q2
    rw [hr] at q2
    simp only [Bool.and_eq_true, List.all_eq_true] at q2
    have := q2.1.2 p hp
    simp only [List.contains_iff_mem, Nat.blt_eq] at this
    exact ⟨this.2, ((q1 p).1 this.1).2⟩
  have hmem : ∀ i, i ∈ ord ↔ i < ops.size := by
    intro i
    constructor
    · intro hi
      obtain ⟨s, t, e, q1, q2⟩ := hat i hi
      unfold okAt at q2
      split at q2
      · cases q2
      · rename_i r hr; rw [← hlen]; exact (List.getElem?_eq_some_iff.1 hr).1
    · intro hi; exact hall i (by omega)
  refine ⟨⟨?_, hlen, ?_, ?_, fun i o r _ hr p hp => (hlt i r hr p hp).1, fun i o r _ hr p hp => (hlt i r hr p hp).2⟩, hpw, hmem⟩
  · intro i o hi
    obtain ⟨r, q1, q2, _⟩ := g2 i o (by simpa using hi)
    exact ⟨r, q1, q2⟩
  · intro i o r hi hr
    obtain ⟨r', q1, q2, q3⟩ := g2 i o (by simpa using hi)
    rw [hr] at q1; cases q1
    have q3 : r.pre = closeL ((rs.take i).map (·.pre)) (edgesOf o) := by simpa using q3 rfl
    refine ⟨fun q hq => by rw [q3]; exact mem_dd.2 (List.mem_append_left _ hq), ?_⟩
    intro p hp
    rw [q3] at hp
    rcases List.mem_append.1 (mem_dd.1 hp) with hp | hp
    · exact .inl hp
    · simp only [List.mem_flatMap] at hp
      obtain ⟨q, hq, hp⟩ := hp
      rw [List.getD_eq_getElem?_getD] at hp
      cases hx : ((rs.take i).map (·.pre))[q]? with
      | none => rw [hx] at hp; simp at hp
      | some l =>
        rw [hx] at hp
        simp only [List.getElem?_map, Option.map_eq_some_iff] at hx
        obtain ⟨r', h1, rfl⟩ := hx
        rw [List.getElem?_take] at h1
        split at h1
        · exact .inr ⟨q, r', hq, h1, hp⟩
        · cases h1
  · intro k i a r hki ha hr
    obtain ⟨s, t, e, q1, q2⟩ := hat i (hall i (List.getElem?_eq_some_iff.1 hr).1)
    unfold okAt at q2
    rw [hr] at q2
    simp only [Bool.and_eq_true, List.all_eq_true] at q2
    have := q2.1.1 k ((q1 k).2 ⟨hall k (List.getElem?_eq_some_iff.1 ha).1, hki⟩)
    rw [ha] at this
    simpa using this

theorem idxOf_get {α : Type} [DecidableEq α] : ∀ {l : List α}, l.Pairwise (fun x y => x ≠ y) → ∀ (j : Nat) a, l[j]? = some a → l.idxOf a = j
  | [], _, j, a, h => by simp at h
  | b :: l, hp, j, a, h => by
    rw [List.pairwise_cons] at hp
    cases j with
    | zero => simp only [List.getElem?_cons_zero, Option.some.injEq] at h; subst h; exact List.idxOf_cons_self
    | succ j =>
      simp only [List.getElem?_cons_succ] at h
      rw [idxOf_ne (hp.1 a (List.mem_of_getElem? h)), idxOf_get hp.2 j a h]

theorem perm_eq {ord : List Nat} {ops : List ROp} (h : okOrdP ord ops = true) : ord.filterMap ((textOrd ord ops)[·]?) = ops := by
  simp only [okOrdP, Bool.and_eq_true] at h
  obtain ⟨h1, h2⟩ := h
  have hl : ord.length = ops.length := Nat.eq_of_beq_eq_true h1
  have hnd := (okOrd_nodup (by simp only [okOrd, Bool.and_eq_true] at h2; exact h2.1)).1
  have key : ∀ (l : List Nat) (ps : List ROp), l.length = ps.length → (∀ (j : Nat) a p, l[j]? = some a → ps[j]? = some p → (textOrd ord ops)[a]? = some p) → l.filterMap ((textOrd ord ops)[·]?) = ps := by
    intro l
    induction l with
    | nil => intro ps hl _; simp at hl; rw [List.eq_nil_of_length_eq_zero hl.symm]; rfl
    | cons a l ih =>
      intro ps hl hk
      cases ps with
      | nil => simp at hl
      | cons p ps =>
        rw [List.filterMap_cons, hk 0 a p (by simp) (by simp)]
        simp only
        rw [ih ps (by simpa using hl) (fun j a' p' h1 h2 => hk (j + 1) a' p' (by simpa using h1) (by simpa using h2))]
  refine key ord ops hl ?_
  intro j a p ha hp
  have hia := idxOf_get hnd j a ha
  have hmem : a < (textOrd ord ops).length := by
    simp only [okOrd, Bool.and_eq_true] at h2
    obtain ⟨s, t, e⟩ := List.append_of_mem (List.mem_of_getElem? ha)
    have := okOrdFrom_spec h2.1 s a t e
    unfold okAt at this
    split at this
    · cases this
    · rename_i r hr; exact (List.getElem?_eq_some_iff.1 hr).1
  simp only [textOrd, List.length_map, List.length_range] at hmem
  simp only [textOrd, List.getElem?_map, List.getElem?_range hmem, Option.map_some]
  rw [hia, List.getD_eq_getElem?_getD, hp]; rfl
end
end Go.Bm
