/- A machine over the kit's walk layer: values by value, objects by number: its operations. -/
import Derived.Calls
import Derived.Laws.World
import Derived.Eval
import Derived.Laws.Sem
import Derived.Laws.Cells
import Derived.Laws.StructEq
import Derived.Laws.Slices
import Derived.Laws.Strings2
import Derived.Laws.Entries

set_option linter.unusedVariables false
set_option linter.unusedSimpArgs false

/- The second abstract machine: values by value, objects by number; what operations do. Definitions alone. -/
namespace Go.Bm
open Go

/-- What a frozen slice's capacity is: its length; unknown, with the right to append in place while the token lives; unknown. -/
inductive Tok where
  | full
  | tk (a : Nat)
  | no
  deriving DecidableEq, Inhabited

/-- Abstract values. 'ptr i off' points into object i; 'fpp cs' to frozen cells; 'sl t sz xs' is a frozen slice of elements of sz cells; 'slv i off n sz' is a view of object i. -/
inductive PV where
  | junk
  | bool (b : Bool)
  | int (k : IntKind) (n : Int)
  | str (s : ByteArray)
  | nilp
  | ptr (i off : Nat)
  | fpp (cs : List PV)
  | sl (t : Tok) (sz : Nat) (xs : List PV)
  | slv (i off n sz : Nat)
  | nilf
  | fn (f : Nat) (first cap : List PV)
  | yld (i : Nat)
  | nilif
  | iface (t : Nat) (v : PV)
  | nilm
  | mp (i : Nat)
  | agg (cs : List PV)
  | tup (vs : List PV)
  deriving Inhabited

/-- The cells of a value. -/
def PV.flat : PV → List PV
  | .agg cs => cs
  | v => [v]

/-- A value of one cell. -/
def PV.leaf : PV → Bool
  | .agg _ | .tup _ | .junk => false
  | _ => true

def Leaves (cs : List PV) : Prop := ∀ y ∈ cs, y.leaf = true

def PV.fits (v : PV) (n : Nat) : Bool := v.flat.length == n && v.flat.all PV.leaf

def flats (xs : List PV) : List PV := xs.flatMap PV.flat

/-- The slots of a frame. -/
abbrev Regs := Nat → PV

/-- What is kept of a range over a function: the frame's slots, the loop's variables, its code, the queue of what rounds defer. -/
structure LpRec where
  nt : Nat
  t : Regs
  ps : List Nat
  ca : Code
  cb : Code
  d : Nat

/-- Objects: rows of cells; maps (keys with values, in the order in which the keys came); ranges over functions; queues of deferred calls, empty. -/
inductive AObj where
  | cells (cs : List PV)
  | map (es : List (PV × PV))
  | lp (busy : Bool) (r : LpRec)
  | dq
  | iter (i : Nat)
  deriving Inhabited

abbrev Mem := Nat → Option AObj
abbrev Lv := Nat → Prop

def Mem.set (μ : Mem) (i : Nat) (o : AObj) : Mem := fun j => if j = i then some o else μ j
def Mem.del (μ : Mem) (i : Nat) : Mem := fun j => if j = i then none else μ j

/-- The token of what is appended to is spent, another one lives. -/
def Lv.mv (L : Lv) (t : Tok) (b : Nat) : Lv := fun c => c = b ∨ (L c ∧ t ≠ .tk c)

/-- A deferred call: function, arguments, captured variables. -/
inductive Dfr where
  | call (f : Nat) (args cap : List PV)
  | coll (d : Nat)
  deriving Inhabited

def upd (t : Regs) (d : Nat) (v : PV) : Regs := fun n => bif Nat.beq n d then v else t n

def look : List (Nat × PV) → Regs
  | [], _ => .junk
  | (m, v) :: r, n => bif Nat.beq n m then v else look r n

/-- The state of a frame. -/
structure St where
  t : Regs
  μ : Mem
  L : Lv
  df : List Dfr

/-- An operand. -/
inductive AX where
  | t (n : Nat)
  | k (v : PV)
  deriving Inhabited

def rd (t : Regs) : AX → PV
  | .t n => t n
  | .k v => v

def rds (t : Regs) : List AX → List PV
  | [] => []
  | x :: xs => rd t x :: rds t xs

/-- Kinds of cells that are held against each other. -/
inductive EK where
  | b | i | s
  deriving DecidableEq, Inhabited

/-- The operations, with what the types say of them. -/
inductive AOp where
  | mv (x : AX)
  | pick (c a b : AX)
  | alloc (zero : List PV)
  | box (n : Nat) (x : AX)
  | fbox (n : Nat) (x : AX)
  | build (zero : List PV) (parts : List (Nat × Nat × AX))
  | bslice (agg : Bool) (sz : Nat) (zero : List PV) (len : Nat) (parts : List (Nat × AX))
  | load (agg : Option Nat) (x : AX)
  | store (n : Nat) (x y : AX)
  | nilck (x : AX)
  | bin (op : BinOp) (x y : AX)
  | binb (neg : Bool) (x y : AX)
  | isnil (kd : Nat) (neg : Bool) (x : AX)
  | isnils (neg : Bool) (x : AX)
  | eqs (neg : Bool) (ks : List EK) (x y : AX)
  | un (op : UnOp) (x : AX)
  | conv (k : IntKind) (x : AX)
  | b2s (x : AX)
  | mkif (t : Nat) (x : AX)
  | mkfn (f : Nat) (first cap : List AX)
  | mkslice (agg : Bool) (sz bytes : Nat) (zero : List PV) (len cap : AX)
  | slice (sz : Nat) (x : AX) (lo hi mx : Option AX)
  | sstr (x : AX) (lo hi : Option AX)
  | faddr (x : AX) (off : Nat)
  | iaddr (sz : Nat) (x i : AX)
  | fld (x : AX) (off : Nat) (agg : Option Nat)
  | idx (n sz : Nat) (agg : Option Nat) (x i : AX)
  | sidx (x i : AX)
  | extr (x : AX) (i : Nat)
  | len (x : AX)
  | slen (x : AX)
  | mlen (x : AX)
  | append (sz bytes : Nat) (x y : AX)
  | mnx (mx : Bool) (x y : AX)
  | mkmap
  | rangem (x : AX)
  | nextm (x : AX)
  | stuck
  | call (f : AX) (args : List AX)
  | dfr (f : AX) (args : List AX)
  | rcv
  | pan (x : AX)
  | tass (t : Nat) (zero : PV) (x : AX)
  deriving Inhabited

/-- A box that is never written to may be taken as frozen. -/
def AOp.erase : AOp → AOp
  | .fbox n x => .box n x
  | o => o

/-! ### Scalars -/

def shiftOp (op : BinOp) (k : IntKind) (x y : Int) : Option PV :=
  if y < 0 then none else
  match op with
  | .shl => some (.int k (k.wrap (x * 2 ^ (min y.toNat k.bits))))
  | .shr => some (.int k (x.fdiv (2 ^ (min y.toNat k.bits))))
  | _ => none

def bitsOp (op : BinOp) (k : IntKind) (x y : Int) : Int :=
  match op with
  | .and => k.wrap ((BitVec.ofInt k.bits x &&& BitVec.ofInt k.bits y).toNat : Int)
  | .or => k.wrap ((BitVec.ofInt k.bits x ||| BitVec.ofInt k.bits y).toNat : Int)
  | .xor => k.wrap ((BitVec.ofInt k.bits x ^^^ BitVec.ofInt k.bits y).toNat : Int)
  | _ => k.wrap ((BitVec.ofInt k.bits x &&& ~~~ BitVec.ofInt k.bits y).toNat : Int)

def intOp (op : BinOp) (k : IntKind) (x y : Int) : Option PV :=
  match op with
  | .add => some (.int k (k.wrap (x + y)))
  | .sub => some (.int k (k.wrap (x - y)))
  | .mul => some (.int k (k.wrap (x * y)))
  | .quo => if y = 0 then none else some (.int k (k.wrap (x.tdiv y)))
  | .rem => if y = 0 then none else some (.int k (x.tmod y))
  | .and => some (.int k (bitsOp .and k x y))
  | .or => some (.int k (bitsOp .or k x y))
  | .xor => some (.int k (bitsOp .xor k x y))
  | .andNot => some (.int k (bitsOp .andNot k x y))
  | .eql => some (.bool (x == y))
  | .neq => some (.bool (x != y))
  | .lss => some (.bool (x < y))
  | .leq => some (.bool (x ≤ y))
  | .gtr => some (.bool (x > y))
  | .geq => some (.bool (x ≥ y))
  | .shl | .shr => none

def strOp (op : BinOp) (x y : ByteArray) : Option PV :=
  match op with
  | .eql => some (.bool (x.toList == y.toList))
  | .neq => some (.bool !(x.toList == y.toList))
  | _ => none

/-- Held against nil: pointers (0), functions (1), interfaces (2). -/
def isNil : Nat → PV → Option Bool
  | 0, .nilp => some true
  | 0, .ptr .. => some false
  | 1, .nilf => some true
  | 1, .fn .. => some false
  | 2, .nilif => some true
  | 2, .iface .. => some false
  | _, _ => none

def binop (op : BinOp) (x y : PV) : Option PV :=
  match x, y with
  | .int k a, .int k' b =>
    match op with
    | .shl => shiftOp .shl k a b
    | .shr => shiftOp .shr k a b
    | op => if k = k' then intOp op k a b else none
  | .str a, .str b => strOp op a b
  | _, _ => none

def unop (op : UnOp) (x : PV) : Option PV :=
  match op, x with
  | .neg, .int k n => some (.int k (k.wrap (0 - n)))
  | .xor, .int k n => some (.int k (bitsOp .xor k (if k.signed then -1 else k.max) n))
  | .not, .bool b => some (.bool !b)
  | _, _ => none

def leafEq : EK → PV → PV → Option Bool
  | .i, .int k a, .int k' b => if k = k' then some (a == b) else none
  | .b, .bool a, .bool b => some (a == b)
  | .s, .str a, .str b => some (a == b)
  | _, _, _ => none

def leavesEq : List EK → List PV → List PV → Option Bool
  | [], [], [] => some true
  | k :: ks, x :: xs, y :: ys => match leafEq k x y, leavesEq ks xs ys with
    | some a, some b => some (a && b)
    | _, _ => none
  | _, _, _ => none

/-! ### What operations do -/

/-- A slice's high bound, within what the length allows. -/
def hiOf (t : Regs) (len : Nat) (hi : Option AX) : Option Nat :=
  match hi with
  | none => some len
  | some x => match rd t x with
    | .int _ n => if 0 ≤ n ∧ n ≤ (len : Int) then some n.toNat else none
    | _ => none

def boundsOf (t : Regs) (len : Nat) (lo hi : Option AX) : Option (Nat × Nat) :=
  match hiOf t len hi with
  | none => none
  | some h => match lo with
    | none => some (0, h)
    | some x => match rd t x with
      | .int _ n => if 0 ≤ n ∧ n ≤ (h : Int) then some (n.toNat, h) else none
      | _ => none

/-- A third bound is the second one. -/
def maxOk (t : Regs) (h : Nat) (mx : Option AX) : Bool :=
  match mx with
  | none => true
  | some x => match rd t x with
    | .int _ n => n == (h : Int)
    | _ => false

def fillParts (t : Regs) : List PV → List (Nat × Nat × AX) → Option (List PV)
  | cs, [] => some cs
  | cs, (off, n, x) :: r => if (rd t x).fits n ∧ off + n ≤ cs.length then fillParts t (cs.take off ++ (rd t x).flat ++ cs.drop (off + n)) r else none

def fillElems (t : Regs) (sz : Nat) : List PV → List (Nat × AX) → Option (List PV)
  | xs, [] => some xs
  | xs, (i, x) :: r => if (rd t x).fits sz ∧ i < xs.length then fillElems t sz (xs.set i (rd t x)) r else none

/-- An element of zeros: 'agg': the element's type is a struct or an array. -/
def elemZero (agg : Bool) (zero : List PV) : PV :=
  if agg then .agg zero else zero.headD .nilp

/-- A part of a struct or an array by value. -/
def partV (agg : Option Nat) (cs : List PV) (off : Nat) : Option PV :=
  match agg with
  | none => cs[off]?
  | some n => if off + n ≤ cs.length then some (.agg ((cs.drop off).take n)) else none

/-- The token of a part of a slice. -/
def cutTok (t : Tok) (len h : Nat) (mx : Bool) : Tok :=
  if mx then .full else if h = len ∧ t = .full then .full else .no

/-- What an operation gives that asks nothing of the memory. -/
def kernP (o : AOp) (t : Regs) : Option PV :=
  match o with
  | .mv x => some (rd t x)
  | .pick c a b => match rd t c with
    | .bool b' => some (if b' then rd t a else rd t b)
    | _ => none
  | .build zero parts => (fillParts t zero parts).map .agg
  | .bslice agg sz zero len parts => (fillElems t sz (List.replicate len (elemZero agg zero)) parts).map (.sl .full sz)
  | .nilck x => match rd t x with
    | .fpp cs => some (.fpp cs)
    | .ptr i o => some (.ptr i o)
    | .fn f a b => some (.fn f a b)
    | _ => none
  | .bin op x y => binop op (rd t x) (rd t y)
  | .binb neg x y => match rd t x, rd t y with
    | .bool a, .bool b => some (.bool ((a == b) != neg))
    | _, _ => none
  | .isnil kd neg x => (isNil kd (rd t x)).map fun b => .bool (b != neg)
  | .eqs neg ks x y => match rd t x, rd t y with
    | .agg a, .agg b => (leavesEq ks a b).map fun e => .bool (e != neg)
    | _, _ => none
  | .un op x => unop op (rd t x)
  | .conv k x => match rd t x with
    | .int _ n => some (.int k (k.wrap n))
    | _ => none
  | .fbox n x => if (rd t x).fits n = true then some (.fpp (rd t x).flat) else none
  | .mkif ty x => some (.iface ty (rd t x))
  | .mkfn f a b => some (.fn f (rds t a) (rds t b))
  | .slice sz x lo hi mx => match rd t x with
    | .sl tk sz' xs => if sz = sz' then match boundsOf t xs.length lo hi with
        | some (l, h) => if maxOk t h mx then some (.sl (cutTok tk xs.length h mx.isSome) sz ((xs.take h).drop l)) else none
        | none => none else none
    | .slv i off n sz' => if sz = sz' then match boundsOf t n lo hi with
        | some (l, h) => if maxOk t h mx then some (.slv i (off + l * sz) (h - l) sz) else none
        | none => none else none
    | _ => none
  | .sstr x lo hi => match rd t x with
    | .str s => match boundsOf t s.size lo hi with
        | some (l, h) => some (.str (s.extract l h))
        | none => none
    | _ => none
  | .faddr x off => match rd t x with
    | .fpp cs => some (.fpp (cs.drop off))
    | .ptr i o => some (.ptr i (o + off))
    | _ => none
  | .iaddr sz x i => match rd t i with
    | .int _ n => match rd t x with
      | .sl _ sz' xs => if sz = sz' ∧ 0 ≤ n then (xs[n.toNat]?).map fun v => .fpp v.flat else none
      | .slv j off k sz' => if sz = sz' ∧ 0 ≤ n ∧ n < (k : Int) then some (.ptr j (off + n.toNat * sz)) else none
      | _ => none
    | _ => none
  | .fld x off agg => match rd t x with
    | .agg cs => partV agg cs off
    | _ => none
  | .idx n sz agg x i => match rd t x, rd t i with
    | .agg cs, .int _ k => if 0 ≤ k ∧ k < (n : Int) then partV agg cs (k.toNat * sz) else none
    | _, _ => none
  | .sidx x i => match rd t x, rd t i with
    | .str s, .int _ k => if 0 ≤ k then (s.data[k.toNat]?).map fun b => .int .u8 b.toNat else none
    | _, _ => none
  | .extr x i => match rd t x with
    | .tup vs => vs[i]?
    | _ => none
  | .tass ty zero x => match rd t x with
    | .iface ty' v => some (.tup (if ty' = ty then [v, .bool true] else [zero, .bool false]))
    | .nilif => some (.tup [zero, .bool false])
    | _ => none
  | .len x => match rd t x with
    | .sl _ _ xs => some (.int .i64 xs.length)
    | .slv _ _ n _ => some (.int .i64 n)
    | _ => none
  | .slen x => match rd t x with
    | .str s => some (.int .i64 s.size)
    | _ => none
  | .mnx mx x y => match rd t x, rd t y with
    | .int k a, .int k' b => if k = k' then some (.int k (if mx then (if b > a then b else a) else (if b < a then b else a))) else none
    | _, _ => none
  | _ => none

/-- The elements of a slice. -/
def elemsA (μ : Mem) (v : PV) (sz : Nat) (ys : List PV) : Prop :=
  match v with
  | .sl _ sz' xs => sz' = sz ∧ ys = xs
  | .slv i off n sz' => sz' = sz ∧ ys.length = n ∧ (∀ y ∈ ys, y.flat.length = sz) ∧ ∃ cs, μ i = some (.cells cs) ∧ off + n * sz ≤ cs.length ∧ flats ys = (cs.drop off).take (n * sz)
  | _ => False

def fitsMem (n bytes : Nat) : Prop := n * bytes ≤ 140737488355328 ∧ n ≤ 140737488355328

abbrev KA := PV → Mem → Lv → Prop

def Fresh (μ : Mem) (L : Lv) (i : Nat) : Prop := μ i = none ∧ ¬ L i

/-- The bytes of a slice. -/
def bytesOf : List PV → Option (List UInt8)
  | [] => some []
  | .int .u8 n :: xs => (bytesOf xs).map (UInt8.ofNat n.toNat :: ·)
  | _ => none

/-- What an operation does that looks at the memory, or writes it. -/
def opM (o : AOp) (t : Regs) (μ : Mem) (L : Lv) (K : KA) : Prop :=
  match o with
  | .alloc zero => ∀ i, Fresh μ L i → K (.ptr i 0) (μ.set i (.cells zero)) L
  | .box n x => (rd t x).fits n = true ∧ ∀ i, Fresh μ L i → K (.ptr i 0) (μ.set i (.cells (rd t x).flat)) L
  | .load agg x => match rd t x with
    | .ptr i off => ∃ cs v, μ i = some (.cells cs) ∧ partV agg cs off = some v ∧ K v μ L
    | .fpp cs => ∃ v, partV agg cs 0 = some v ∧ K v μ L
    | _ => False
  | .store n x y => (rd t y).fits n = true ∧ match rd t x with
    | .ptr i off => ∃ cs, μ i = some (.cells cs) ∧ off + n ≤ cs.length ∧ K (.tup []) (μ.set i (.cells (cs.take off ++ (rd t y).flat ++ cs.drop (off + n)))) L
    | _ => False
  | .isnils neg x => match rd t x with
    | .sl _ _ xs => ∀ b : Bool, (xs ≠ [] → b = false) → K (.bool (b != neg)) μ L
    | .slv _ _ n _ => ∀ b : Bool, (n ≠ 0 → b = false) → K (.bool (b != neg)) μ L
    | _ => False
  | .b2s x => ∃ ys bs, elemsA μ (rd t x) 1 ys ∧ bytesOf ys = some bs ∧ K (.str ⟨bs.toArray⟩) μ L
  | .mkslice _ sz bytes zero l c => match rd t l, rd t c with
    | .int _ n, .int _ k => 0 ≤ n ∧ n = k ∧ fitsMem n.toNat bytes ∧ ∀ i, Fresh μ L i → K (.slv i 0 n.toNat sz) (μ.set i (.cells (List.replicate n.toNat zero).flatten)) L
    | _, _ => False
  | .mkmap => ∀ i, Fresh μ L i → K (.mp i) (μ.set i (.map [])) L
  | .mlen x => match rd t x with
    | .mp i => ∃ es, μ i = some (.map es) ∧ K (.int .i64 es.length) μ L
    | .nilm => K (.int .i64 0) μ L
    | _ => False
  | .rangem x => match rd t x with
    | .mp i => (∃ es, μ i = some (.map es)) ∧ ∀ j, Fresh μ L j → K (.ptr j 0) (μ.set j (.iter i)) L
    | _ => False
  | .nextm x => match rd t x with
    | .ptr j off => off = 0 ∧ ∃ i, μ j = some (.iter i) ∧ μ i = some (.map []) ∧ K (.tup [.bool false]) μ L
    | _ => False
  | .append sz bytes x y => ∃ ys, elemsA μ (rd t y) sz ys ∧ match rd t x with
    | .sl tk sz' xs => sz' = sz ∧ fitsMem (xs.length + ys.length) bytes ∧
        (((tk = .full ∨ ∃ a, tk = .tk a ∧ L a) ∧ ∀ b, Fresh μ L b → K (.sl (.tk b) sz (xs ++ ys)) μ (L.mv tk b)) ∨
         (tk = .full ∧ (xs = [] ∨ ys ≠ []) ∧ ∀ i, Fresh μ L i → K (.slv i 0 (xs.length + ys.length) sz) (μ.set i (.cells (flats (xs ++ ys)))) L))
    | .slv i off n sz' => sz' = sz ∧ off = 0 ∧ fitsMem (n + ys.length) bytes ∧ ∃ cs, μ i = some (.cells cs) ∧ cs.length = n * sz ∧
        ∀ j, Fresh μ L j → K (.slv j 0 (n + ys.length) sz) ((μ.del i).set j (.cells (cs ++ flats ys))) L
    | _ => False
  | o => match kernP o t with
    | some v => K v μ L
    | none => False

end Go.Bm

/- The second abstract machine: what its states mean of a frame and a world. -/
namespace Go.Bm
open Go

/-- Who owns a block: an object, or a token (what lies behind the frozen cells). -/
inductive Owner where
  | obj (i : Nat)
  | tok (a : Nat)
  deriving DecidableEq

/-- The ghost: which block (of which size) an object is; what a token is the right to (block, first free cell, end; or nothing); which cells are frozen; who owns a block. -/
structure Gh where
  nx : Nat
  loc : Nat → Option (Nat × Nat)
  tok : Nat → Option (Option (Nat × Nat × Nat))
  fz : Nat → Nat → Prop
  ow : Nat → Option Owner

/-- What a token says of a slice's spare room. -/
def TokR (G : Gh) (t : Tok) (n cap : Nat) (at_ : Option (Nat × Nat × Nat)) : Prop :=
  match t with
  | .full => cap = n
  | .tk a => (G.tok a = some none ∧ cap = n) ∨ (∃ x, at_ = some x ∧ G.tok a = some (some x))
  | .no => True

/-- A value means an abstract value: whatever it reaches by value is frozen. -/
inductive RV (G : Gh) (w : World) : Value → PV → Prop where
  | junk (v) : RV G w v .junk
  | bool (b) : RV G w (.bool b) (.bool b)
  | int (k n) : RV G w (.int k n) (.int k n)
  | str (s) : RV G w (.string s) (.str s)
  | nilp : RV G w (.pointer none) .nilp
  | ptr {i b s} (off) : G.loc i = some (b, s) → RV G w (.pointer (some ⟨b, off, none⟩)) (.ptr i off)
  | fpp {cs b o} : Leaves cs → (∀ k, k < cs.length → G.fz b (o + k) ∧ (w.cell? ⟨b, o + k, none⟩).isSome = true) →
      (∀ (k : Nat) y u, cs[k]? = some y → w.cell? ⟨b, o + k, none⟩ = some u → RV G w u y) → RV G w (.pointer (some ⟨b, o, none⟩)) (.fpp cs)
  | sl {t sz xs b o cap} : xs.length ≤ cap → TokR G t xs.length cap (some (b, o + xs.length * sz, o + cap * sz)) → (∀ x ∈ xs, x.flat.length = sz) → (∀ x ∈ xs, Leaves x.flat) →
      (∀ i off, i < xs.length → off < sz → G.fz b (o + (i * sz + off)) ∧ (w.cell? ⟨b, o + (i * sz + off), none⟩).isSome = true) →
      (∀ (i off : Nat) x y u, xs[i]? = some x → x.flat[off]? = some y → w.cell? ⟨b, o + (i * sz + off), none⟩ = some u → RV G w u y) →
      RV G w (.slice (some ⟨b, o, none⟩) xs.length cap) (.sl t sz xs)
  | slE {t sz a cap} : TokR G t 0 cap none → RV G w (.slice a 0 cap) (.sl t sz [])
  | slv {i off n sz b s cap} : G.loc i = some (b, s) → n ≤ cap → off + cap * sz ≤ s → RV G w (.slice (some ⟨b, off, none⟩) n cap) (.slv i off n sz)
  | slvE {i off sz a} : RV G w (.slice a 0 0) (.slv i off 0 sz)
  | nilf : RV G w .nilFunc .nilf
  | fn {f} {vs us : Array Value} {xs ys : List PV} : vs.size = xs.length → us.size = ys.length → (∀ (k : Nat) u y, vs[k]? = some u → xs[k]? = some y → RV G w u y) →
      (∀ (k : Nat) u y, us[k]? = some u → ys[k]? = some y → RV G w u y) → RV G w (.func (.func f) vs us) (.fn f xs ys)
  | yld {i b s} : G.loc i = some (b, s) → RV G w (.func (.yield b) #[] #[]) (.yld i)
  | nilif : RV G w .nilIface .nilif
  | iface {t v x} : RV G w v x → RV G w (.iface t v) (.iface t x)
  | nilm : RV G w (.map none) .nilm
  | mp {i b s} : G.loc i = some (b, s) → RV G w (.map (some b)) (.mp i)
  | agg {vs : Array Value} {xs : List PV} : vs.size = xs.length → Leaves xs → (∀ (k : Nat) u y, vs[k]? = some u → xs[k]? = some y → RV G w u y) → RV G w (.agg vs) (.agg xs)
  | tup {vs : Array Value} {xs : List PV} : vs.size = xs.length → (∀ (k : Nat) u y, vs[k]? = some u → xs[k]? = some y → RV G w u y) → RV G w (.tuple vs) (.tup xs)

theorem TokR.mono {G G' : Gh} {t : Tok} {n cap : Nat} {x : Option (Nat × Nat × Nat)} (h : TokR G t n cap x) (ht : ∀ a y, G.tok a = some y → G'.tok a = some y) : TokR G' t n cap x := by
  cases t with
  | full => exact h
  | no => trivial
  | tk a =>
    rcases h with ⟨h1, h2⟩ | ⟨y, h1, h2⟩
    · exact .inl ⟨ht _ _ h1, h2⟩
    · exact .inr ⟨y, h1, ht _ _ h2⟩

/-- What means an abstract value goes on meaning it. -/
theorem RV.mono {G G' : Gh} {w w' : World} {v : Value} {x : PV} (h : RV G w v x) (hloc : ∀ i y, G.loc i = some y → G'.loc i = some y) (htok : ∀ a y, G.tok a = some y → G'.tok a = some y)
    (hfz : ∀ b o, G.fz b o → G'.fz b o) (hc : ∀ b o, G.fz b o → w'.cell? ⟨b, o, none⟩ = w.cell? ⟨b, o, none⟩) : RV G' w' v x := by
  induction h with
  | junk v => exact .junk v
  | bool b => exact .bool b
  | int k n => exact .int k n
  | str s => exact .str s
  | nilp => exact .nilp
  | ptr off h => exact .ptr off (hloc _ _ h)
  | @fpp cs b o h0 h1 h2 ih =>
    refine .fpp h0 (fun k hk => ⟨hfz _ _ (h1 k hk).1, by rw [hc _ _ (h1 k hk).1]; exact (h1 k hk).2⟩) ?_
    intro k y u hy hu
    rw [hc _ _ (h1 k (List.getElem?_eq_some_iff.1 hy).1).1] at hu
    exact ih k y u hy hu
  | @sl t sz xs b o cap h1 h2 h3 hl h4 h5 ih =>
    have hcell : ∀ i off, i < xs.length → off < sz → w'.cell? ⟨b, o + (i * sz + off), none⟩ = w.cell? ⟨b, o + (i * sz + off), none⟩ := fun i off hi ho => hc _ _ (h4 i off hi ho).1
    refine .sl h1 (h2.mono htok) h3 hl (fun i off hi ho => ⟨hfz _ _ (h4 i off hi ho).1, by rw [hcell i off hi ho]; exact (h4 i off hi ho).2⟩) ?_
    intro i off x y u hx hy hu
    have hi : i < xs.length := (List.getElem?_eq_some_iff.1 hx).1
    have hsz := h3 x (List.mem_of_getElem? hx)
    have ho : off < sz := by have := (List.getElem?_eq_some_iff.1 hy).1; omega
    rw [hcell i off hi ho] at hu
    exact ih i off x y u hx hy hu
  | slE h => exact .slE (h.mono htok)
  | slv h1 h2 h3 => exact .slv (hloc _ _ h1) h2 h3
  | slvE => exact .slvE
  | nilf => exact .nilf
  | fn h1 h2 _ _ ih1 ih2 => exact .fn h1 h2 ih1 ih2
  | yld h => exact .yld (hloc _ _ h)
  | nilif => exact .nilif
  | iface _ ih => exact .iface ih
  | nilm => exact .nilm
  | mp h => exact .mp (hloc _ _ h)
  | agg h1 h2 _ ih => exact .agg h1 h2 ih
  | tup h1 _ ih => exact .tup h1 ih

/-- Cells mean abstract cells. -/
def Pts (G : Gh) (w : World) (us : Array Value) (xs : List PV) : Prop := ∀ (k : Nat) u y, us[k]? = some u → xs[k]? = some y → RV G w u y

/-- A frame's slots mean what a state says. -/
def FR (G : Gh) (w : World) (t : Regs) (tm : Array Value) : Prop := ∀ n, RV G w (tm.getD n undef) (t n)

/-- The record of a range over a function, as it lies in memory. -/
def LpR (G : Gh) (w : World) (busy : Bool) (r : LpRec) (l : Loop) : Prop :=
  l.state = (if busy then .busy else .ready) ∧ l.pending = none ∧ l.tmps.size = r.nt ∧ FR G w r.t l.tmps ∧ l.params.toList = r.ps ∧ l.assign = r.ca ∧ l.body = r.cb

/-- A block means an object. -/
def ObjR (G : Gh) (w : World) (i : Nat) : AObj → Prop
  | .cells cs => (cs = [] ∧ G.loc i = none) ∨ ∃ b arr e, G.loc i = some (b, arr.size) ∧ w.heap[b]? = some (.cells arr e (0, 0)) ∧ cs.length ≤ arr.size ∧ G.ow b = some (.obj i) ∧ (∀ o, ¬ G.fz b o) ∧ Leaves cs ∧ Pts G w arr cs
  | .map es => ∃ b s ents cl, G.loc i = some (b, s) ∧ w.heap[b]? = some (.map ents cl) ∧ G.ow b = some (.obj i) ∧ (∀ o, ¬ G.fz b o) ∧ ents.size = es.length ∧
      ∀ (k : Nat) u y, ents[k]? = some u → es[k]? = some y → RV G w u.key y.1 ∧ RV G w u.val y.2
  | .lp busy r => ∃ b s l, G.loc i = some (b, s) ∧ w.heap[b]? = some (.loop l) ∧ G.ow b = some (.obj i) ∧ (∀ o, ¬ G.fz b o) ∧ LpR G w busy r l
  | .iter m => ∃ b s b' s' since last, G.loc i = some (b, s) ∧ G.loc m = some (b', s') ∧ w.heap[b]? = some (.mapIter (some b') since #[] last) ∧ G.ow b = some (.obj i) ∧ (∀ o, ¬ G.fz b o)
  | .dq => ∃ b s, G.loc i = some (b, s) ∧ w.heap[b]? = some (.deferred (some [])) ∧ G.ow b = some (.obj i) ∧ (∀ o, ¬ G.fz b o)

/-- What a living token means. -/
def LiveR (G : Gh) (w : World) (a : Nat) : Prop :=
  match G.tok a with
  | none => False
  | some none => True
  | some (some (b, p, e)) => ∃ arr el, w.heap[b]? = some (.cells arr el (0, 0)) ∧ p ≤ e ∧ e ≤ arr.size ∧ G.ow b = some (.tok a) ∧ ∀ k, p ≤ k → ¬ G.fz b k

structure Rel (G : Gh) (μ : Mem) (L : Lv) (w : World) : Prop where
  obj : ∀ i o, μ i = some o → ObjR G w i o
  tok : ∀ a, L a → LiveR G w a
  fzlt : ∀ b o, G.fz b o → b < w.heap.size
  owlt : ∀ b, G.ow b ≠ none → b < w.heap.size
  nx : ∀ i, G.nx ≤ i → G.loc i = none ∧ G.tok i = none ∧ μ i = none ∧ ¬ L i
  dj : ∀ i, G.loc i = none ∨ G.tok i = none

/-- How a world may turn: what is frozen stays, and what nobody here owns. -/
structure Evo (G : Gh) (w : World) (G' : Gh) (w' : World) : Prop where
  nx : G.nx ≤ G'.nx
  loc : ∀ i y, G.loc i = some y → G'.loc i = some y
  locn : ∀ i, i < G.nx → G.loc i = none → G'.loc i = none
  tok : ∀ a y, G.tok a = some y → G'.tok a = some y
  fz : ∀ b o, G.fz b o → G'.fz b o
  cells : ∀ b o, G.fz b o → w'.cell? ⟨b, o, none⟩ = w.cell? ⟨b, o, none⟩
  old : ∀ b, b < w.heap.size → G.ow b = none → w'.heap[b]? = w.heap[b]? ∧ G'.ow b = none
  size : w.heap.size ≤ w'.heap.size
  os : w'.os = w.os
  tape : w'.tape = w.tape
  output : w'.output = w.output
  fzn : ∀ b o, b < w.heap.size → G.ow b = none → G'.fz b o → G.fz b o
  tokn : ∀ i, i < G.nx → G.tok i = none → G'.tok i = none
  dj : (∀ i, G.loc i = none ∨ G.tok i = none) → ∀ i, G'.loc i = none ∨ G'.tok i = none

theorem Evo.refl (G : Gh) (w : World) : Evo G w G w :=
  ⟨Nat.le_refl _, fun _ _ h => h, fun _ _ h => h, fun _ _ h => h, fun _ _ h => h, fun _ _ _ => rfl, fun _ _ h => ⟨rfl, h⟩, Nat.le_refl _, rfl, rfl, rfl, fun _ _ _ _ h => h, fun _ _ h => h, fun h => h⟩

theorem Evo.trans {G G' G'' : Gh} {w w' w'' : World} (h : Evo G w G' w') (h' : Evo G' w' G'' w'') : Evo G w G'' w'' where
  nx := Nat.le_trans h.nx h'.nx
  loc := fun i y x => h'.loc i y (h.loc i y x)
  locn := fun i hi x => h'.locn i (Nat.lt_of_lt_of_le hi h.nx) (h.locn i hi x)
  tok := fun i y x => h'.tok i y (h.tok i y x)
  fz := fun b o x => h'.fz b o (h.fz b o x)
  cells := fun b o x => (h'.cells b o (h.fz b o x)).trans (h.cells b o x)
  old := fun b hb ho => by
    obtain ⟨h1, h2⟩ := h.old b hb ho
    obtain ⟨h3, h4⟩ := h'.old b (Nat.lt_of_lt_of_le hb h.size) h2
    exact ⟨h3.trans h1, h4⟩
  size := Nat.le_trans h.size h'.size
  os := h'.os.trans h.os
  tape := h'.tape.trans h.tape
  output := h'.output.trans h.output
  fzn := fun b o hb ho hf => h.fzn b o hb ho (h'.fzn b o (Nat.lt_of_lt_of_le hb h.size) (h.old b hb ho).2 hf)
  tokn := fun i hi x => h'.tokn i (Nat.lt_of_lt_of_le hi h.nx) (h.tokn i hi x)
  dj := fun x => h'.dj (h.dj x)

theorem RV.evo {G G' : Gh} {w w' : World} {v : Value} {x : PV} (h : RV G w v x) (e : Evo G w G' w') : RV G' w' v x := h.mono e.loc e.tok e.fz e.cells

theorem Pts.evo {G G' : Gh} {w w' : World} {us : Array Value} {xs : List PV} (h : Pts G w us xs) (e : Evo G w G' w') : Pts G' w' us xs := fun k u y h1 h2 => (h k u y h1 h2).evo e

theorem getElem?_setIfInBounds' (tm : Array Value) (d s : Nat) (v : Value) : (tm.setIfInBounds d v)[s]? = if s = d ∧ d < tm.size then some v else tm[s]? := by
  simp only [Array.getElem?_setIfInBounds]
  by_cases h : d = s
  · subst h
    by_cases hl : d < tm.size
    · simp [hl]
    · simp [hl]
  · have : ¬ s = d := fun e => h e.symm
    simp [h, this]

theorem beq_no {n d : Nat} (h : ¬ n = d) : Nat.beq n d = false := by
  cases hb : Nat.beq n d with
  | false => rfl
  | true => exact absurd (Nat.eq_of_beq_eq_true hb) h

theorem FR.set {G : Gh} {w : World} {t : Regs} {tm : Array Value} (h : FR G w t tm) {d : Nat} {v : Value} {x : PV} (hd : d < tm.size) (hv : RV G w v x) : FR G w (upd t d x) (tm.setIfInBounds d v) := by
  intro n
  rw [Array.getD_eq_getD_getElem?, getElem?_setIfInBounds']
  simp only [upd]
  by_cases hn : n = d
  · rw [if_pos ⟨hn, hd⟩, hn, Nat.beq_refl]; exact hv
  · rw [if_neg (fun hh => hn hh.1), (beq_no hn), ← Array.getD_eq_getD_getElem?]; exact h n

theorem FR.evo {G G' : Gh} {w w' : World} {t : Regs} {tm : Array Value} (h : FR G w t tm) (e : Evo G w G' w') : FR G' w' t tm := fun n => (h n).evo e

theorem Rel.fresh {G : Gh} {μ : Mem} {L : Lv} {w : World} (h : Rel G μ L w) : Fresh μ L G.nx := ⟨(h.nx _ (Nat.le_refl _)).2.2.1, (h.nx _ (Nat.le_refl _)).2.2.2⟩

theorem Rel.loclt {G : Gh} {μ : Mem} {L : Lv} {w : World} (h : Rel G μ L w) {i : Nat} {y} (hi : G.loc i = some y) : i < G.nx := by
  apply Nat.lt_of_not_le; intro hle
  rw [(h.nx i hle).1] at hi; cases hi

theorem Rel.toklt {G : Gh} {μ : Mem} {L : Lv} {w : World} (h : Rel G μ L w) {i : Nat} {y} (hi : G.tok i = some y) : i < G.nx := by
  apply Nat.lt_of_not_le; intro hle
  rw [(h.nx i hle).2.1] at hi; cases hi

theorem Rel.mult {G : Gh} {μ : Mem} {L : Lv} {w : World} (h : Rel G μ L w) {i : Nat} {o} (hi : μ i = some o) : i < G.nx := by
  apply Nat.lt_of_not_le; intro hle
  rw [(h.nx i hle).2.2.1] at hi; cases hi

theorem Rel.livelt {G : Gh} {μ : Mem} {L : Lv} {w : World} (h : Rel G μ L w) {i : Nat} (hi : L i) : i < G.nx := by
  apply Nat.lt_of_not_le; intro hle
  exact (h.nx i hle).2.2.2 hi

/-- What holds of the objects and tokens that are not touched. -/
theorem Rel.carry {G G' : Gh} {μ μ' : Mem} {L L' : Lv} {w w' : World} (h : Rel G μ L w) (e : Evo G w G' w')
    (ho : ∀ i o, μ' i = some o → (μ i = some o ∧ (∀ b s, G.loc i = some (b, s) → G.ow b = some (.obj i) → w'.heap[b]? = w.heap[b]? ∧ G'.ow b = some (.obj i) ∧ ∀ k, G'.fz b k → G.fz b k)) ∨ ObjR G' w' i o)
    (ht : ∀ a, L' a → (L a ∧ (∀ b p x, G.tok a = some (some (b, p, x)) → G.ow b = some (.tok a) → w'.heap[b]? = w.heap[b]? ∧ G'.ow b = some (.tok a) ∧ ∀ k, p ≤ k → G'.fz b k → G.fz b k)) ∨ LiveR G' w' a)
    (hf : ∀ b o, G'.fz b o → b < w'.heap.size) (hw : ∀ b, G'.ow b ≠ none → b < w'.heap.size) (hn : ∀ i, G'.nx ≤ i → G'.loc i = none ∧ G'.tok i = none ∧ μ' i = none ∧ ¬ L' i) : Rel G' μ' L' w' where
  obj := by
    intro i o hi
    rcases ho i o hi with ⟨h1, h2⟩ | h1
    · have := h.obj i o h1
      cases o with
      | cells cs =>
        rcases this with ⟨rfl, q⟩ | ⟨b, arr, el, q1, q2, q3, q4, q5, q6, q7⟩
        · exact .inl ⟨rfl, e.locn i (h.mult h1) q⟩
        · obtain ⟨r1, r2, r3⟩ := h2 b _ q1 q4
          exact .inr ⟨b, arr, el, e.loc _ _ q1, r1.trans q2, q3, r2, fun o hh => q5 o (r3 o hh), q6, q7.evo e⟩
      | map es =>
        obtain ⟨b, s, ents, cl, q1, q2, q3, q4, q5, q6⟩ := this
        obtain ⟨r1, r2, r3⟩ := h2 b _ q1 q3
        exact ⟨b, s, ents, cl, e.loc _ _ q1, r1.trans q2, r2, fun o hh => q4 o (r3 o hh), q5, fun k u y hu hy => ⟨(q6 k u y hu hy).1.evo e, (q6 k u y hu hy).2.evo e⟩⟩
      | lp busy r =>
        obtain ⟨b, s, l, q1, q2, q3, q4, q5⟩ := this
        obtain ⟨r1, r2, r3⟩ := h2 b _ q1 q3
        exact ⟨b, s, l, e.loc _ _ q1, r1.trans q2, r2, fun o hh => q4 o (r3 o hh), q5.1, q5.2.1, q5.2.2.1, q5.2.2.2.1.evo e, q5.2.2.2.2⟩
      | iter m =>
        obtain ⟨b, s, b', s', since, last, q1, q0, q2, q3, q4⟩ := this
        obtain ⟨r1, r2, r3⟩ := h2 b _ q1 q3
        exact ⟨b, s, b', s', since, last, e.loc _ _ q1, e.loc _ _ q0, r1.trans q2, r2, fun o hh => q4 o (r3 o hh)⟩
      | dq =>
        obtain ⟨b, s, q1, q2, q3, q4⟩ := this
        obtain ⟨r1, r2, r3⟩ := h2 b _ q1 q3
        exact ⟨b, s, e.loc _ _ q1, r1.trans q2, r2, fun o hh => q4 o (r3 o hh)⟩
    · exact h1
  tok := by
    intro a ha
    rcases ht a ha with ⟨h1, h2⟩ | h1
    · have := h.tok a h1
      unfold LiveR at this ⊢
      cases hq : G.tok a with
      | none => simp [hq] at this
      | some x =>
        rw [e.tok _ _ hq]
        cases x with
        | none => trivial
        | some x =>
          obtain ⟨b, p, x⟩ := x
          rw [hq] at this
          obtain ⟨arr, el, q1, q2, q3, q4, q5⟩ := this
          obtain ⟨r1, r2, r3⟩ := h2 b p x hq q4
          exact ⟨arr, el, r1.trans q1, q2, q3, r2, fun k hk hh => q5 k hk (r3 k hk hh)⟩
    · exact h1
  fzlt := hf
  owlt := hw
  nx := hn
  dj := e.dj h.dj

/-- What nothing asks for may be forgotten. -/
theorem Rel.forget {G : Gh} {μ μ' : Mem} {L L' : Lv} {w : World} (h : Rel G μ L w) (hm : ∀ i o, μ' i = some o → μ i = some o) (hl : ∀ a, L' a → L a) : Rel G μ' L' w :=
  { obj := fun i o hi => h.obj i o (hm i o hi)
    tok := fun a ha => h.tok a (hl a ha)
    fzlt := h.fzlt
    owlt := h.owlt
    dj := h.dj
    nx := fun i hi => by
      obtain ⟨h1, h2, h3, h4⟩ := h.nx i hi
      refine ⟨h1, h2, ?_, fun hh => h4 (hl _ hh)⟩
      cases hq : μ' i with
      | none => rfl
      | some o => rw [hm i o hq] at h3; cases h3 }

end Go.Bm

/- The second abstract machine: the kit's operations with what the types say of them. -/
namespace Go.Bm
open Go

/-- What a type's cells are: a struct or an array of n cells, or one cell. -/
def aggOf (P : Program) (t : TypeId) : Option (Option Nat) :=
  match P.underlying t, P.info? t with
  | some (.struct _), some i => some (some i.size)
  | some (.array _ _), some i => some (some i.size)
  | some _, some i => if i.size = 1 then some none else none
  | _, _ => none

def sizeT (P : Program) (t : TypeId) : Option Nat := (P.info? t).map (·.size)

def elemT (P : Program) (t : TypeId) : Option TypeId :=
  match P.underlying t with
  | some (.slice e) => some e
  | _ => none

/-- The zeros of a type. -/
def zeroPVs (P : Program) : Nat → TypeId → Option (List PV)
  | 0, _ => none
  | n + 1, t =>
    match P.underlying t with
    | some .bool => some [.bool false]
    | some (.int k) => some [.int k 0]
    | some .string => some [.str .empty]
    | some (.pointer _) => some [.nilp]
    | some (.slice e) => (sizeT P e).map fun sz => [.sl .full sz []]
    | some (.map _ _) => some [.nilm]
    | some (.func _ _ _) => some [.nilf]
    | some (.interface _) => some [.nilif]
    | some (.struct fs) => fs.toList.foldr (fun f r => match zeroPVs P n f.type, r with
      | some a, some b => some (a ++ b)
      | _, _ => none) (some [])
    | some (.array k e) => (zeroPVs P n e).map fun z => (List.replicate k z).flatten
    | _ => none

/-- A value without memory means an abstract value. -/
def constOk : Value → PV → Bool
  | .bool a, .bool b => a == b
  | .int k a, .int k' b => k == k' && a == b
  | .string a, .str b => a.data.toList == b.data.toList
  | .pointer none, .nilp => true
  | .slice none 0 0, .sl .full _ [] => true
  | .nilFunc, .nilf => true
  | .nilIface, .nilif => true
  | .map none, .nilm => true
  | _, _ => false

def constsOk : List Value → List PV → Bool
  | [], [] => true
  | v :: vs, x :: xs => constOk v x && constsOk vs xs
  | _, _ => false

/-- The zeros of a type, held against the model's own. -/
def zeroOf (P : Program) (t : TypeId) : Option (List PV) :=
  match zeroPVs P 12 t, P.info? t with
  | some z, some i => match i.zero with
    | some v => if constsOk v.cells.toList z then some z else none
    | none => none
  | _, _ => none

/-- The zero value of a type. -/
def zeroV (P : Program) (t : TypeId) : Option PV :=
  match zeroPVs P 12 t, P.info? t with
  | some z, some i => match i.zero with
    | some (.agg cs) => if constsOk cs.toList z then some (.agg z) else none
    | some v => match z with
      | [x] => if constOk v x then some x else none
      | _ => none
    | none => none
  | _, _ => none

def constPV (P : Program) (t : TypeId) (v : Value) : Option PV :=
  match v with
  | .bool b => some (.bool b)
  | .int k n => some (.int k n)
  | .string s => some (.str s)
  | .pointer none => some .nilp
  | .slice none 0 0 => (elemT P t).bind fun e => (sizeT P e).map fun sz => .sl .full sz []
  | .nilFunc => some .nilf
  | .nilIface => some .nilif
  | .map none => some .nilm
  | _ => none

def ax (P : Program) (t : TypeId) (x : Operand) : Option AX :=
  match x with
  | .tmp n => some (.t n)
  | .const v => (constPV P t v).map .k
  | .func f => some (.k (.fn f [] []))
  | .global _ => none

def axs (P : Program) : List TypeId → List Operand → Option (List AX)
  | [], [] => some []
  | t :: ts, x :: xs => match ax P t x, axs P ts xs with
    | some a, some b => some (a :: b)
    | _, _ => none
  | _, _ => none

/-- Operands of which only numbers are asked. -/
def ax0 (P : Program) (x : Operand) : Option AX := ax P 0 x

def axo (P : Program) : Option Operand → Option (Option AX)
  | none => some none
  | some x => (ax0 P x).map some

/-- Fields that lie one behind the other: where they end. -/
def contig (P : Program) : List Field → Nat → Option Nat
  | [], n => some n
  | f :: fs, n => if f.offset = n then match sizeT P f.type with
    | some k => contig P fs (n + k)
    | none => none else none

/-- The kinds of the cells of a type whose cells are whole numbers, bools and strings, each of which counts for equality. -/
def kindsT (P : Program) : Nat → TypeId → Option (List EK)
  | 0, _ => none
  | n + 1, t => match P.underlying t with
    | some .bool => if sizeT P t = some 1 then some [.b] else none
    | some (.int _) => if sizeT P t = some 1 then some [.i] else none
    | some .string => if sizeT P t = some 1 then some [.s] else none
    | some (.struct fs) => if P.stoodInHeld t = false ∧ contig P fs.toList 0 = sizeT P t ∧ fs.toList.all (fun f => f.name != "_") then
        fs.toList.foldr (fun f r => match kindsT P n f.type, r with
          | some a, some b => some (a ++ b)
          | _, _ => none) (some [])
      else none
    | _ => none

def fieldsT (P : Program) (t : TypeId) : Option (Array Field) :=
  match P.underlying t with
  | some (.struct fs) => some fs
  | _ => none

def partsT (P : Program) (fs : Array Field) : List (Nat × Operand) → Option (List (Nat × Nat × AX))
  | [] => some []
  | (i, x) :: r => match fs[i]? with
    | some f => match sizeT P f.type, ax P f.type x, partsT P fs r with
      | some n, some a, some b => some ((f.offset, n, a) :: b)
      | _, _, _ => none
    | none => none

def partsA (P : Program) (e : TypeId) (n : Nat) : List (Nat × Operand) → Option (List (Nat × Nat × AX))
  | [] => some []
  | (i, x) :: r => match ax P e x, partsA P e n r with
    | some a, some b => some ((i * n, n, a) :: b)
    | _, _ => none

def partsS (P : Program) (e : TypeId) : List (Nat × Operand) → Option (List (Nat × AX))
  | [] => some []
  | (i, x) :: r => match ax P e x, partsS P e r with
    | some a, some b => some ((i, a) :: b)
    | _, _ => none

/-- An operation, with what the types say of it. -/
def resolve (P : Program) (o : Oper) : Option AOp :=
  match o.op with
  | .move x => (ax P o.type x).map .mv
  | .assign x => (ax P o.type x).map .mv
  | .pick c a b => match ax0 P c, ax P o.type a, ax P o.type b with
    | some c, some a, some b => some (.pick c a b)
    | _, _, _ => none
  | .alloc t => (zeroOf P t).map .alloc
  | .box t x => match sizeT P t, ax P t x with
    | some n, some a => some (.box n a)
    | _, _ => none
  | .build t parts => match P.underlying t with
    | some (.struct fs) => match zeroOf P t, partsT P fs parts.toList with
      | some z, some ps => some (.build z ps)
      | _, _ => none
    | some (.array _ e) => match zeroOf P t, sizeT P e with
      | some z, some n => match partsA P e n parts.toList with
        | some ps => some (.build z ps)
        | none => none
      | _, _ => none
    | _ => none
  | .buildSlice t len parts => match elemT P t with
    | some e => match aggOf P e, sizeT P e, zeroOf P e, partsS P e parts.toList with
      | some g, some sz, some z, some ps => if 0 < sz ∧ len * sz ≤ 16777216 ∧ z.length = sz then some (.bslice g.isSome sz z len ps) else none
      | _, _, _, _ => none
    | none => none
  | .load t x => match aggOf P t, ax0 P x with
    | some g, some a => some (.load g a)
    | _, _ => none
  | .store t x y => match sizeT P t, ax0 P x, ax P t y with
    | some n, some a, some b => some (.store n a b)
    | _, _, _ => none
  | .nilCheck x => (ax0 P x).map .nilck
  | .binOp op t x y yt =>
    match P.underlying t with
    | some (.struct _) => if P.eqGuardType P.depth t then none else match kindsT P 12 t with
      | some ks => match op, ax P t x, ax P t y with
        | .eql, some a, some b => some (.eqs false ks a b)
        | .neq, some a, some b => some (.eqs true ks a b)
        | _, _, _ => none
      | none => none
    | some (.int _) | some .string => match ax P t x, ax P yt y with
      | some a, some b => some (.bin op a b)
      | _, _ => none
    | some .bool => match op, ax P t x, ax P t y with
      | .eql, some a, some b => some (.binb false a b)
      | .neq, some a, some b => some (.binb true a b)
      | _, _, _ => none
    | some (.pointer _) => match op, y with
      | .eql, .const (.pointer none) => (ax P t x).map (.isnil 0 false)
      | .neq, .const (.pointer none) => (ax P t x).map (.isnil 0 true)
      | _, _ => none
    | some (.func _ _ _) => match op, y with
      | .eql, .const .nilFunc => (ax P t x).map (.isnil 1 false)
      | .neq, .const .nilFunc => (ax P t x).map (.isnil 1 true)
      | _, _ => none
    | some (.interface _) => match op, y with
      | .eql, .const .nilIface => (ax P t x).map (.isnil 2 false)
      | .neq, .const .nilIface => (ax P t x).map (.isnil 2 true)
      | _, _ => none
    | some (.slice _) => match op, y with
      | .eql, .const (.slice none 0 0) => (ax P t x).map (.isnils false)
      | .neq, .const (.slice none 0 0) => (ax P t x).map (.isnils true)
      | _, _ => none
    | _ => none
  | .unOp op _ x => (ax0 P x).map (.un op)
  | .convert src dst x => match P.underlying src, P.underlying dst with
    | some (.int _), some (.int k) => (ax0 P x).map (.conv k)
    | some (.slice e), some .string => match P.underlying e with
      | some (.int .u8) => if sizeT P e = some 1 then (ax P src x).map .b2s else none
      | _ => none
    | _, _ => none
  | .makeInterface t x => match P.underlying t with
    | some (.interface _) => none
    | some _ => (ax P t x).map (.mkif t)
    | none => none
  | .makeFunc (.func f) first captured => match axs P (List.replicate first.size 0) first.toList, axs P (List.replicate captured.size 0) captured.toList with
    | some a, some b => some (.mkfn f a b)
    | _, _ => none
  | .makeSlice t l c => match elemT P t with
    | some e => match aggOf P e, P.info? e, zeroOf P e, ax0 P l, ax0 P c with
      | some g, some i, some z, some a, some b => if 0 < i.size ∧ z.length = i.size then some (.mkslice g.isSome i.size i.bytes z a b) else none
      | _, _, _, _, _ => none
    | none => none
  | .slice t x lo hi mx => match P.underlying t with
    | some (.slice e) => match sizeT P e, ax P t x, axo P lo, axo P hi, axo P mx with
      | some sz, some a, some l, some h, some m => if m.isSome && h.isNone then none else some (.slice sz a l h m)
      | _, _, _, _, _ => none
    | some .string => match ax P t x, axo P lo, axo P hi, mx with
      | some a, some l, some h, none => some (.sstr a l h)
      | _, _, _, _ => none
    | _ => none
  | .fieldAddr t x f => match fieldsT P t with
    | some fs => match fs[f]? with
      | some f => match sizeT P f.type, ax0 P x with
        | some n, some a => if n = 0 then none else some (.faddr a f.offset)
        | _, _ => none
      | none => none
    | none => none
  | .indexAddr t x i => match elemT P t with
    | some e => match sizeT P e, ax P t x, ax0 P i with
      | some sz, some a, some b => if sz = 0 then none else some (.iaddr sz a b)
      | _, _, _ => none
    | none => none
  | .field t x f => match fieldsT P t with
    | some fs => match fs[f]? with
      | some f => match aggOf P f.type, ax P t x with
        | some g, some a => some (.fld a f.offset g)
        | _, _ => none
      | none => none
    | none => none
  | .index t x i => match P.underlying t with
    | some (.array n e) => match aggOf P e, sizeT P e, ax P t x, ax0 P i with
      | some g, some sz, some a, some b => some (.idx n sz g a b)
      | _, _, _, _ => none
    | some .string => match ax P t x, ax0 P i with
      | some a, some b => some (.sidx a b)
      | _, _ => none
    | _ => none
  | .extract x i => (ax0 P x).map (.extr · i)
  | .typeAssert x xt t ok => match P.underlying t, zeroV P t with
    | some (.interface _), _ => none
    | some _, some z => if ok then (ax P xt x).map (.tass t z) else none
    | _, _ => none
  | .panic x => (ax0 P x).map .pan
  | .defer c => match c.callee with
    | .value f => match ax0 P f, axs P c.argTypes.toList c.args.toList with
      | some a, some b => some (.dfr a b)
      | _, _ => none
    | _ => none
  | .call c => match c.callee with
    | .value f => match ax0 P f, axs P c.argTypes.toList c.args.toList with
      | some a, some b => some (.call a b)
      | _, _ => none
    | .invoke _ _ => none
    | .builtin .len => match c.argTypes.toList, c.args.toList with
      | [t], [x] => match P.underlying t with
        | some .string => (ax P t x).map .slen
        | some (.slice _) => (ax P t x).map .len
        | some (.map _ _) => (ax P t x).map .mlen
        | _ => none
      | _, _ => none
    | .builtin .append => match c.argTypes.toList, c.args.toList with
      | [t, u], [x, y] => match elemT P t, P.underlying u with
        | some e, some (.slice _) => match P.info? e, ax P t x, ax P u y with
          | some i, some a, some b => if 0 < i.size ∧ (i.zero.map fun v => v.cells.size) = some i.size then some (.append i.size i.bytes a b) else none
          | _, _, _ => none
        | _, _ => none
      | _, _ => none
    | .builtin .recover => some .rcv
    | .builtin .min => match c.args.toList with
      | [x, y] => match ax0 P x, ax0 P y with
        | some a, some b => some (.mnx false a b)
        | _, _ => none
      | _ => none
    | .builtin .max => match c.args.toList with
      | [x, y] => match ax0 P x, ax0 P y with
        | some a, some b => some (.mnx true a b)
        | _, _ => none
      | _ => none
    | _ => none
  | .makeMap _ none => some .mkmap
  | .range t x => match P.underlying t with
    | some (.map _ _) => (ax P t x).map .rangem
    | _ => none
  | .next x false => (ax0 P x).map .nextm
  | _ => none

end Go.Bm

/- The second abstract machine: operands; operations that only reckon. -/
namespace Go.Bm
open Go

theorem constOk_RV {G : Gh} {w : World} : ∀ {v : Value} {x : PV}, constOk v x = true → RV G w v x ∧ x.leaf = true := by
  intro v x h
  unfold constOk at h
  split at h
  · simp at h; subst h; exact ⟨.bool _, rfl⟩
  · simp at h; obtain ⟨rfl, rfl⟩ := h; exact ⟨.int _ _, rfl⟩
  · rename_i a b
    simp at h
    obtain rfl : a = b := by cases a; cases b; simp at h; simp [h]
    exact ⟨.str _, rfl⟩
  · exact ⟨.nilp, rfl⟩
  · exact ⟨.slE rfl, rfl⟩
  · exact ⟨.nilf, rfl⟩
  · exact ⟨.nilif, rfl⟩
  · exact ⟨.nilm, rfl⟩
  · cases h

theorem constsOk_RV {G : Gh} {w : World} : ∀ {vs : List Value} {xs : List PV}, constsOk vs xs = true → vs.length = xs.length ∧ Leaves xs ∧ ∀ (k : Nat) u y, vs[k]? = some u → xs[k]? = some y → RV G w u y
  | [], [], _ => ⟨rfl, by simp [Leaves], by simp⟩
  | v :: vs, x :: xs, h => by
    simp only [constsOk, Bool.and_eq_true] at h
    obtain ⟨h1, h2, h3⟩ := constsOk_RV (G := G) (w := w) h.2
    have h0 := constOk_RV (G := G) (w := w) h.1
    refine ⟨by simp [h1], ?_, ?_⟩
    · intro y hy
      rcases List.mem_cons.1 hy with e | e
      · rw [e]; exact h0.2
      · exact h2 y e
    · intro k u y hu hy
      cases k with
      | zero => simp at hu hy; subst hu; subst hy; exact h0.1
      | succ k => simp at hu hy; exact h3 k u y hu hy
  | [], _ :: _, h => by simp [constsOk] at h
  | _ :: _, [], h => by simp [constsOk] at h

theorem constPV_RV {P : Program} {t : TypeId} {v : Value} {x : PV} {G : Gh} {w : World} (h : constPV P t v = some x) : RV G w v x := by
  unfold constPV at h
  split at h
  · cases h; exact .bool _
  · cases h; exact .int _ _
  · cases h; exact .str _
  · cases h; exact .nilp
  · simp only [Option.bind_eq_some_iff, Option.map_eq_some_iff] at h
    obtain ⟨e, _, sz, _, rfl⟩ := h
    exact .slE rfl
  · cases h; exact .nilf
  · cases h; exact .nilif
  · cases h; exact .nilm
  · cases h

theorem ax_t {P : Program} {t : TypeId} {x : Operand} {n : Nat} (hx : ax P t x = some (.t n)) : x = .tmp n := by
  unfold ax at hx
  split at hx
  · cases hx; rfl
  · simp only [Option.map_eq_some_iff] at hx; obtain ⟨_, _, e⟩ := hx; cases e
  · cases hx
  · cases hx

theorem ax_k {P : Program} {t : TypeId} {x : Operand} {v : PV} (hx : ax P t x = some (.k v)) {G : Gh} {w : World} {a : Act} : RV G w (a.eval x) v := by
  unfold ax at hx
  split at hx
  · cases hx
  · simp only [Option.map_eq_some_iff] at hx
    obtain ⟨z, hz, e⟩ := hx
    cases e
    exact constPV_RV hz
  · cases hx; exact .fn rfl rfl (by simp) (by simp)
  · cases hx


theorem FR.opd {G : Gh} {w : World} {tt : Regs} {a : Act} (h : FR G w tt a.tmps) {P : Program} {t : TypeId} {x : Operand} {y : AX} (hx : ax P t x = some y) : RV G w (a.eval x) (rd tt y) := by
  cases y with
  | t n => obtain rfl := ax_t hx; exact h n
  | k v => exact ax_k hx

theorem FR.opdv {G : Gh} {w : World} {tt : Regs} {a : Act} (h : FR G w tt a.tmps) {P : Program} {t : TypeId} {x : Operand} {y : AX} (hx : ax P t x = some y) {v : PV} (hv : rd tt y = v) : RV G w (a.eval x) v := hv ▸ h.opd hx

/-- An operation gives a value and leaves the world alone. -/
def Gives (P : Program) (o : Oper) (a : Act) (w : World) (G : Gh) (v : PV) : Prop :=
  ∃ u, (execOp a.eval o).run P w = .ok (.value u) w ∧ RV G w u v

theorem RV.int_inv {G : Gh} {w : World} {v : Value} {k : IntKind} {n : Int} (h : RV G w v (.int k n)) : v = .int k n := by cases h; rfl
theorem RV.bool_inv {G : Gh} {w : World} {v : Value} {b : Bool} (h : RV G w v (.bool b)) : v = .bool b := by cases h; rfl
theorem RV.str_inv {G : Gh} {w : World} {v : Value} {s : ByteArray} (h : RV G w v (.str s)) : v = .string s := by cases h; rfl

theorem shiftOp_run {op : BinOp} {k : IntKind} {a b : Int} {yk : IntKind} {v : PV} {P : Program} {w : World} (h : shiftOp op k a b = some v) :
    ∃ u, (Op.shift op k a yk b).run P w = .ok u w ∧ ∀ G : Gh, RV G w u v := by
  unfold shiftOp at h
  split at h
  · cases h
  · rename_i hb
    unfold Op.shift
    rw [if_neg hb]
    split at h
    · cases h; exact ⟨_, rfl, fun _ => .int _ _⟩
    · cases h; exact ⟨_, rfl, fun _ => .int _ _⟩
    · cases h

theorem intOp_run {op : BinOp} {k : IntKind} {a b : Int} {v : PV} {P : Program} {w : World} (h : intOp op k a b = some v) :
    ∃ u, (binOp op 0 (.int k a) (.int k b)).run P w = .ok u w ∧ ∀ G : Gh, RV G w u v := by
  cases op <;> simp only [intOp] at h
  case quo => split at h <;> cases h; rename_i hb; refine ⟨.int k (k.wrap (a.tdiv b)), ?_, fun _ => .int _ _⟩; simp [binOp, Op.intDiv, hb]
  case rem => split at h <;> cases h; rename_i hb; refine ⟨.int k (a.tmod b), ?_, fun _ => .int _ _⟩; simp [binOp, Op.intDiv, hb]
  case shl => cases h
  case shr => cases h
  all_goals
    cases h
    first
      | exact ⟨_, by simp only [binOp, ne_eq, not_true_eq_false, if_false]; rfl, fun _ => .int _ _⟩
      | exact ⟨_, by simp only [binOp, ne_eq, not_true_eq_false, if_false]; rfl, fun _ => .bool _⟩

theorem binOp_type {op : BinOp} {t : TypeId} {k : IntKind} {a b : Int} (h1 : op ≠ .shl) (h2 : op ≠ .shr) : binOp op t (.int k a) (.int k b) = binOp op 0 (.int k a) (.int k b) := by
  cases op <;> simp_all [binOp]


section
variable {P : Program} {o : Oper} {a : Act} {w : World} {G : Gh} {tt : Regs} {v : PV}

theorem op_mv {x : Operand} {y : AX} (ho : o.op = .move x ∨ o.op = .assign x) (hx : ax P o.type x = some y) (h : FR G w tt a.tmps) : Gives P o a w G (rd tt y) :=
  ⟨a.eval x, by rcases ho with ho | ho <;> simp [execOp, ho], h.opd hx⟩

theorem op_pick {c x y : Operand} {c' x' y' : AX} (ho : o.op = .pick c x y) (hc : ax0 P c = some c') (hx : ax P o.type x = some x') (hy : ax P o.type y = some y') (h : FR G w tt a.tmps)
    (hk : kernP (.pick c' x' y') tt = some v) : Gives P o a w G v := by
  simp only [kernP] at hk
  split at hk
  · rename_i b hb
    cases hk
    have h1 := RV.bool_inv (h.opdv hc hb)
    cases b with
    | true => exact ⟨a.eval x, by simp [execOp, ho, h1, asBool], h.opd hx⟩
    | false => exact ⟨a.eval y, by simp [execOp, ho, h1, asBool], h.opd hy⟩
  · cases hk

theorem strOp_run {op : BinOp} {t : TypeId} {x y : ByteArray} {v : PV} (hb : strOp op x y = some v) :
    ∃ u, (Go.binOp op t (.string x) (.string y)).run P w = .ok u w ∧ ∀ G : Gh, RV G w u v := by
  cases op <;> simp only [strOp] at hb <;> first | cases hb; done | skip
  all_goals
    cases hb
    exact ⟨_, rfl, fun _ => .bool _⟩

theorem op_bin {op : BinOp} {t yt : TypeId} {x y : Operand} {x' y' : AX} (ho : o.op = .binOp op t x y yt) (hx : ax P t x = some x') (hy : ax P yt y = some y') (h : FR G w tt a.tmps)
    (hk : kernP (.bin op x' y') tt = some v) : Gives P o a w G v := by
  simp only [kernP] at hk
  have e1 := h.opd hx
  have e2 := h.opd hy
  generalize rd tt x' = u at hk e1
  generalize rd tt y' = u' at hk e2
  have key : ∃ z, (Go.binOp op t (a.eval x) (a.eval y)).run P w = .ok z w ∧ RV G w z v := by
    unfold binop at hk
    split at hk
    · have e1 := RV.int_inv e1; have e2 := RV.int_inv e2
      rw [e1, e2]
      split at hk
      · obtain ⟨z, h1, h2⟩ := shiftOp_run (P := P) (w := w) (yk := by assumption) hk; exact ⟨z, h1, h2 G⟩
      · obtain ⟨z, h1, h2⟩ := shiftOp_run (P := P) (w := w) (yk := by assumption) hk; exact ⟨z, h1, h2 G⟩
      · rename_i hn1 hn2
        split at hk
        · rename_i hk'; subst hk'
          obtain ⟨z, h1, h2⟩ := intOp_run (P := P) (w := w) hk
          refine ⟨z, ?_, h2 G⟩
          rw [binOp_type (fun e => hn1 e) (fun e => hn2 e)]; exact h1
        · cases hk
    · have e1 := RV.str_inv e1; have e2 := RV.str_inv e2
      rw [e1, e2]
      obtain ⟨z, h1, h2⟩ := strOp_run (P := P) (w := w) (t := t) hk; exact ⟨z, h1, h2 G⟩
    · cases hk
  obtain ⟨z, hz, hr⟩ := key
  refine ⟨z, ?_, hr⟩
  have hg : eqGuard op t x y (a.eval x) (a.eval y) = pure () := by
    unfold binop at hk
    split at hk
    · rw [RV.int_inv e1]; exact eqGuard_at_int _ _ _ _ _ _ _
    · rw [RV.str_inv e1]; exact eqGuard_at_string _ _ _ _ _ _
    · cases hk
  simp [execOp, ho, hg, hz]

theorem run_underlying {t : TypeId} {d : TypeDesc} (h : P.underlying t = some d) : (underlying t).run P w = .ok d w := by
  simp [underlying, h]

theorem run_equal_ptr {t q : TypeId} (h : P.underlying t = some (.pointer q)) (z : Option Addr) : (Op.equal t (.pointer z) (.pointer none)).run P w = .ok z.isNone w := by
  show (Op.equalIn (9999 + 1) t _ _).run P w = _
  unfold Op.equalIn
  cases z <;> simp [underlying, h]

theorem run_equal_fn {t : TypeId} {q r : Array TypeId} {s : Bool} (h : P.underlying t = some (.func q r s)) {v : Value} (hv : v = .nilFunc ∨ ∃ f x y, v = .func f x y) :
    (Op.equal t v .nilFunc).run P w = .ok (v matches .nilFunc) w := by
  show (Op.equalIn (9999 + 1) t _ _).run P w = _
  unfold Op.equalIn
  rcases hv with rfl | ⟨f, x, y, rfl⟩ <;> simp [underlying, h]

theorem run_equal_if {t : TypeId} {ms : Array (String × TypeId)} (h : P.underlying t = some (.interface ms)) {v : Value} (hv : v = .nilIface ∨ ∃ f x, v = .iface f x) :
    (Op.equal t v .nilIface).run P w = .ok (v matches .nilIface) w := by
  show (Op.equalIn (9999 + 1) t _ _).run P w = _
  unfold Op.equalIn
  rcases hv with rfl | ⟨f, x, rfl⟩ <;> simp [underlying, h]

theorem run_equal_bool {t : TypeId} (h : P.underlying t = some .bool) (b c : Bool) : (Op.equal t (.bool b) (.bool c)).run P w = .ok (b == c) w :=
  run_equalIn_bool' _ 9999 t b c h

theorem binOp_other {t : TypeId} {u v : Value} (h1 : ∀ k n, u ≠ .int k n) (h2 : ∀ k n, u ≠ .float k n) (h3 : ∀ k n m, u ≠ .complex k n m) (h4 : ∀ s, u ≠ .string s) :
    Go.binOp .eql t u v = (do pure (.bool (← Op.equal t u v))) ∧ Go.binOp .neq t u v = (do pure (.bool (!(← Op.equal t u v)))) := by
  cases u <;> first | exact absurd rfl (h1 _ _) | exact absurd rfl (h2 _ _) | exact absurd rfl (h3 _ _ _) | exact absurd rfl (h4 _) | exact ⟨rfl, rfl⟩

theorem op_isnil {op : BinOp} {t yt : TypeId} {x y : Operand} {x' : AX} {kd : Nat} {neg : Bool} (ho : o.op = .binOp op t x y yt) (hx : ax P t x = some x') (hop : op = if neg then .neq else .eql)
    (hy : (kd = 0 ∧ (∃ q, P.underlying t = some (.pointer q)) ∧ y = .const (.pointer none)) ∨ (kd = 1 ∧ (∃ q r s, P.underlying t = some (.func q r s)) ∧ y = .const .nilFunc) ∨ (kd = 2 ∧ (∃ ms, P.underlying t = some (.interface ms)) ∧ y = .const .nilIface))
    (h : FR G w tt a.tmps) (hk : kernP (.isnil kd neg x') tt = some v) : Gives P o a w G v := by
  simp only [kernP, Option.map_eq_some_iff] at hk
  obtain ⟨b, hn, rfl⟩ := hk
  have e1 := h.opd hx
  generalize rd tt x' = u at hn e1
  refine ⟨.bool (b != neg), ?_, .bool _⟩
  generalize hE : a.eval x = vx at e1
  have hR : ∀ c : Value, (execOp a.eval o).run P w = ((do eqGuard op t x y vx (a.eval y); Go.binOp op t vx (a.eval y) : Sem Value).run P w).andThen fun v w' => .ok (.value v) w' := by
    intro c; simp only [execOp, ho, hE, bind_pure_comp, Sem.run_map]
  rw [hR .nilIface]
  rcases hy with ⟨rfl, ⟨q, ht⟩, rfl⟩ | ⟨rfl, ⟨q, r, s, ht⟩, rfl⟩ | ⟨rfl, ⟨q, ht⟩, rfl⟩
  · have hc : a.eval (.const (.pointer none)) = .pointer none := rfl
    rw [hc]
    cases u <;> simp [isNil] at hn <;> subst hn <;> cases e1 <;> cases neg <;> subst hop <;>
      simp [eqGuard_at_pointer, binOp_other, run_equal_ptr ht]
  · have hc : a.eval (.const .nilFunc) = .nilFunc := rfl
    rw [hc]
    cases u <;> simp [isNil] at hn <;> subst hn <;> cases e1 <;> cases neg <;> subst hop <;>
      simp [eqGuard_at_func, eqGuard_at_nilFunc, binOp_other, run_equal_fn ht]
  · have hc : a.eval (.const .nilIface) = .nilIface := rfl
    rw [hc]
    cases u <;> simp [isNil] at hn <;> subst hn <;> cases e1 <;> cases neg <;> subst hop <;>
      simp [eqGuard_at_iface, eqGuard_nil_constR, binOp_other, run_equal_if ht]

theorem execOp_builtin {b : Builtin} {c : Call} {ρ : Operand → Value} (ho : o.op = .call c) (hc : c.callee = .builtin b) :
    ∃ consts, execOp ρ o = builtin b c.argTypes o.type consts (c.args.map ρ) := by
  refine ⟨c.args.map fun | .const _ => true | _ => false, ?_⟩
  simp only [execOp, ho, Go.resolve, hc, invoke, pure_bind]
  congr 2

theorem op_binb {op : BinOp} {t yt : TypeId} {x y : Operand} {x' y' : AX} {neg : Bool} (ho : o.op = .binOp op t x y yt) (hx : ax P t x = some x') (hy : ax P t y = some y') (hop : op = if neg then .neq else .eql)
    (ht : P.underlying t = some .bool) (h : FR G w tt a.tmps) (hk : kernP (.binb neg x' y') tt = some v) : Gives P o a w G v := by
  simp only [kernP] at hk
  split at hk
  · rename_i p q h1 h2
    cases hk
    have e1 := RV.bool_inv (h.opdv hx h1)
    have e2 := RV.bool_inv (h.opdv hy h2)
    refine ⟨.bool ((p == q) != neg), ?_, .bool _⟩
    cases neg <;> subst hop <;> simp [execOp, ho, e1, e2, eqGuard_at_bool, binOp_other, run_equal_bool ht]
  · cases hk

theorem op_un {op : UnOp} {t : TypeId} {x : Operand} {x' : AX} (ho : o.op = .unOp op t x) (hx : ax0 P x = some x') (h : FR G w tt a.tmps)
    (hk : kernP (.un op x') tt = some v) : Gives P o a w G v := by
  simp only [kernP] at hk
  have e1 := h.opd hx
  generalize rd tt x' = u at hk e1
  unfold unop at hk
  split at hk
  · cases hk
    refine ⟨_, ?_, .int _ _⟩
    simp [execOp, ho, RV.int_inv e1, Op.unary, Op.intArith]
  · cases hk
    refine ⟨_, ?_, .int _ _⟩
    simp [execOp, ho, RV.int_inv e1, Op.unary, Op.intBits, bitsOp]
  · cases hk
    refine ⟨_, ?_, .bool _⟩
    simp [execOp, ho, RV.bool_inv e1, Op.unary]
  · cases hk

theorem op_conv {src dst : TypeId} {k k0 : IntKind} {x : Operand} {x' : AX} (ho : o.op = .convert src dst x) (h1 : P.underlying src = some (.int k0)) (h2 : P.underlying dst = some (.int k)) (hx : ax0 P x = some x') (h : FR G w tt a.tmps)
    (hk : kernP (.conv k x') tt = some v) : Gives P o a w G v := by
  simp only [kernP] at hk
  split at hk
  · rename_i k1 n hv
    cases hk
    have e1 := RV.int_inv (h.opdv hx hv)
    refine ⟨.int k (k.wrap n), ?_, .int _ _⟩
    simp [execOp, ho, e1, convert, underlying, h1, h2, Conv.intToInt]
  · cases hk

theorem op_mkif {t : TypeId} {x : Operand} {x' : AX} (ho : o.op = .makeInterface t x) (ht : ∃ d, P.underlying t = some d ∧ ∀ ms, d ≠ .interface ms) (hx : ax P t x = some x') (h : FR G w tt a.tmps) :
    Gives P o a w G (.iface t (rd tt x')) := by
  obtain ⟨d, hd1, hd2⟩ := ht
  refine ⟨.iface t (a.eval x), ?_, .iface (h.opd hx)⟩
  simp only [execOp, ho, Instr.makeInterface, underlying, Sem.run_bind, run_program, Result.andThen_ok, hd1, Sem.run_pure]

theorem FR.opds {ts : List TypeId} : ∀ {xs : List Operand} {ys : List AX}, FR G w tt a.tmps → axs P ts xs = some ys →
    xs.length = (rds tt ys).length ∧ ∀ (k : Nat) x v, xs[k]? = some x → (rds tt ys)[k]? = some v → RV G w (a.eval x) v := by
  induction ts with
  | nil =>
    intro xs ys h hx
    cases xs with
    | nil => simp [axs] at hx; subst hx; simp [rds]
    | cons x xs => simp [axs] at hx
  | cons t ts ih =>
    intro xs ys h hx
    cases xs with
    | nil => simp [axs] at hx
    | cons x xs =>
      simp only [axs] at hx
      split at hx
      · rename_i y ys' h1 h2
        cases hx
        obtain ⟨g1, g2⟩ := ih h h2
        refine ⟨by simp [rds, g1], ?_⟩
        intro k x0 v0 hx0 hv0
        cases k with
        | zero => simp [rds] at hx0 hv0; subst hx0; subst hv0; exact h.opd h1
        | succ k => simp [rds] at hx0 hv0; exact g2 k x0 v0 hx0 hv0
      · cases hx

theorem op_mkfn {f : Nat} {x y : Array Operand} {x' y' : List AX} {t1 t2 : List TypeId} (ho : o.op = .makeFunc (.func f) x y) (hx : axs P t1 x.toList = some x') (hy : axs P t2 y.toList = some y') (h : FR G w tt a.tmps) :
    Gives P o a w G (.fn f (rds tt x') (rds tt y')) := by
  obtain ⟨g1, g2⟩ := h.opds hx
  obtain ⟨g3, g4⟩ := h.opds hy
  refine ⟨.func (.func f) (x.map a.eval) (y.map a.eval), by simp [execOp, ho, Instr.makeFunc], ?_⟩
  refine .fn (by simpa using g1) (by simpa using g3) ?_ ?_
  · intro k u v hu hv
    simp only [Array.getElem?_map, Option.map_eq_some_iff] at hu
    obtain ⟨z, hz, rfl⟩ := hu
    exact g2 k z v (by simpa using hz) hv
  · intro k u v hu hv
    simp only [Array.getElem?_map, Option.map_eq_some_iff] at hu
    obtain ⟨z, hz, rfl⟩ := hu
    exact g4 k z v (by simpa using hz) hv

theorem RV.tup_inv {v : Value} {xs : List PV} (h : RV G w v (.tup xs)) : ∃ vs : Array Value, v = .tuple vs ∧ vs.size = xs.length ∧ ∀ (k : Nat) u y, vs[k]? = some u → xs[k]? = some y → RV G w u y := by
  cases h with
  | tup h1 h2 => exact ⟨_, rfl, h1, h2⟩

theorem RV.agg_inv {v : Value} {xs : List PV} (h : RV G w v (.agg xs)) : ∃ vs : Array Value, v = .agg vs ∧ vs.size = xs.length ∧ Leaves xs ∧ ∀ (k : Nat) u y, vs[k]? = some u → xs[k]? = some y → RV G w u y := by
  cases h with
  | agg h1 h2 h3 => exact ⟨_, rfl, h1, h2, h3⟩

theorem op_extr {x : Operand} {i : Nat} {x' : AX} (ho : o.op = .extract x i) (hx : ax0 P x = some x') (h : FR G w tt a.tmps)
    (hk : kernP (.extr x' i) tt = some v) : Gives P o a w G v := by
  simp only [kernP] at hk
  split at hk
  · rename_i vs hv
    obtain ⟨us, e1, h1, h2⟩ := (h.opdv hx hv).tup_inv
    have hlt : i < us.size := by rw [h1]; exact (List.getElem?_eq_some_iff.1 hk).1
    refine ⟨us[i], ?_, h2 i _ _ (by simp [hlt]) hk⟩
    simp [execOp, ho, e1, Instr.extract, hlt]
  · cases hk

theorem aggOf_spec {t : TypeId} {g : Option Nat} (hg : aggOf P t = some g) : ∃ d i, P.underlying t = some d ∧ P.info? t = some i ∧ (match g with
    | some n => n = i.size ∧ ((∃ fs, d = .struct fs) ∨ ∃ k e, d = .array k e)
    | none => i.size = 1 ∧ (∀ fs, d ≠ .struct fs) ∧ ∀ k e, d ≠ .array k e) := by
  unfold aggOf at hg
  split at hg
  · rename_i fs i h1 h2; cases hg; exact ⟨_, i, h1, h2, rfl, .inl ⟨_, rfl⟩⟩
  · rename_i k e' i h1 h2; cases hg; exact ⟨_, i, h1, h2, rfl, .inr ⟨_, _, rfl⟩⟩
  · rename_i d i h1' h2' h3 h4
    split at hg
    · cases hg
      rename_i h5
      exact ⟨d, i, h3, h4, h5, fun fs e => h1' fs e, fun k e' ee => h2' k e' ee⟩
    · cases hg
  · cases hg

theorem run_isAgg {t : TypeId} {d : TypeDesc} (ht : P.underlying t = some d) : (isAgg t).run P w = .ok (match d with | .struct _ | .array _ _ => true | _ => false) w := by
  simp only [isAgg, underlying, Sem.run_bind, run_program, Result.andThen_ok, ht, Sem.run_pure]
  cases d <;> rfl

theorem run_isAgg' {t : TypeId} {g : Option Nat} (hg : aggOf P t = some g) : (isAgg t).run P w = .ok g.isSome w := by
  obtain ⟨d, i, h1, h2, h3⟩ := aggOf_spec hg
  rw [run_isAgg h1]
  cases g with
  | some n => rcases h3.2 with ⟨fs, rfl⟩ | ⟨k, e', rfl⟩ <;> rfl
  | none => obtain ⟨_, h4, h5⟩ := h3; cases d <;> simp_all

theorem run_sizeOf {t : TypeId} {n : Nat} (hn : sizeT P t = some n) : (sizeOf t).run P w = .ok n w := by
  unfold sizeT at hn
  cases hi : P.info? t with
  | none => simp [hi] at hn
  | some i =>
    simp [hi] at hn
    simp [sizeOf, typeInfo, hi, hn]

theorem sizeT_agg {t : TypeId} {n : Nat} (hg : aggOf P t = some (some n)) : sizeT P t = some n := by
  obtain ⟨d, i, h1, h2, h3⟩ := aggOf_spec hg
  simp [sizeT, h2, h3.1]

theorem sizeT_one {t : TypeId} (hg : aggOf P t = some none) : sizeT P t = some 1 := by
  obtain ⟨d, i, h1, h2, h3⟩ := aggOf_spec hg
  simp [sizeT, h2, h3.1]


end
end Go.Bm

/- The second abstract machine: parts of structs; equality of structs; addresses, lengths, parts of slices. -/
namespace Go.Bm
open Go

section
variable {P : Program} {o : Oper} {a : Act} {w : World} {G : Gh} {tt : Regs} {v : PV}

/-- A part of a struct by value. -/
theorem run_part {t : TypeId} {g : Option Nat} (hg : aggOf P t = some g) {vs : Array Value} {cs : List PV} (h1 : vs.size = cs.length) (hl : Leaves cs) (h2 : ∀ (k : Nat) u y, vs[k]? = some u → cs[k]? = some y → RV G w u y)
    {off : Nat} {v : PV} (hv : partV g cs off = some v) :
    ∃ u, (part t vs off).run P w = .ok u w ∧ RV G w u v := by
  simp only [part, Sem.run_bind, run_isAgg' hg, Result.andThen_ok]
  unfold partV at hv
  cases g with
  | none =>
    simp only at hv
    have hlt : off < vs.size := by rw [h1]; exact (List.getElem?_eq_some_iff.1 hv).1
    refine ⟨vs[off], by simp [hlt], h2 off _ _ (by simp [hlt]) hv⟩
  | some n =>
    simp only at hv
    split at hv
    · rename_i hle
      cases hv
      refine ⟨.agg (vs.extract off (off + n)), by simp [run_sizeOf (sizeT_agg hg)], .agg ?_ ?_ ?_⟩
      · simp; omega
      · intro y hy; exact hl y (List.mem_of_mem_drop (List.mem_of_mem_take hy))
      · intro k u y hu hy
        rw [Array.getElem?_extract] at hu
        split at hu
        · rw [List.getElem?_take] at hy
          split at hy
          · rw [List.getElem?_drop] at hy
            exact h2 _ _ _ hu hy
          · cases hy
        · cases hu
    · cases hv

theorem op_fld {t : TypeId} {fi : Nat} {f : Field} {fs : Array Field} {x : Operand} {x' : AX} {g : Option Nat} (ho : o.op = .field t x fi) (hf : P.underlying t = some (.struct fs)) (hfi : fs[fi]? = some f) (hg : aggOf P f.type = some g)
    (hx : ax P t x = some x') (h : FR G w tt a.tmps) (hk : kernP (.fld x' f.offset g) tt = some v) : Gives P o a w G v := by
  simp only [kernP] at hk
  split at hk
  · rename_i cs hv
    obtain ⟨vs, e1, h1, hl, h2⟩ := (h.opdv hx hv).agg_inv
    obtain ⟨u, hu, hr⟩ := run_part (w := w) hg h1 hl h2 hk
    refine ⟨u, ?_, hr⟩
    simp [execOp, ho, Instr.field, underlying, hf, hfi, e1, asAgg, hu]
  · cases hk

theorem op_idx {t el : TypeId} {n sz : Nat} {x i : Operand} {x' i' : AX} {g : Option Nat} (ho : o.op = .index t x i) (hf : P.underlying t = some (.array n el)) (hg : aggOf P el = some g) (hs : sizeT P el = some sz)
    (hx : ax P t x = some x') (hi : ax0 P i = some i') (h : FR G w tt a.tmps) (hk : kernP (.idx n sz g x' i') tt = some v) : Gives P o a w G v := by
  simp only [kernP] at hk
  split at hk
  · rename_i cs k j hv hj
    obtain ⟨vs, e1, h1, hl, h2⟩ := (h.opdv hx hv).agg_inv
    have e2 := RV.int_inv (h.opdv hi hj)
    split at hk
    · rename_i hb
      obtain ⟨u, hu, hr⟩ := run_part (w := w) hg h1 hl h2 hk
      refine ⟨u, ?_, hr⟩
      simp [execOp, ho, Instr.index, asIntOf, underlying, hf, e1, e2, hb, run_sizeOf hs, hu]
    · cases hk
  · cases hk

theorem op_sidx {t : TypeId} {x i : Operand} {x' i' : AX} (ho : o.op = .index t x i) (hf : P.underlying t = some .string)
    (hx : ax P t x = some x') (hi : ax0 P i = some i') (h : FR G w tt a.tmps) (hk : kernP (.sidx x' i') tt = some v) : Gives P o a w G v := by
  simp only [kernP] at hk
  split at hk
  · rename_i s k j hv hj
    have e1 := RV.str_inv (h.opdv hx hv)
    have e2 := RV.int_inv (h.opdv hi hj)
    split at hk
    · rename_i hb
      simp only [Option.map_eq_some_iff] at hk
      obtain ⟨b, hb', rfl⟩ := hk
      refine ⟨.int .u8 b.toNat, ?_, .int _ _⟩
      have hsz : j.toNat < s.size := (Array.getElem?_eq_some_iff.1 hb').1
      have hget : s[j.toNat]? = some b := by
        rw [getElem?_pos s j.toNat hsz]
        obtain ⟨h3, h4⟩ := Array.getElem?_eq_some_iff.1 hb'
        exact congrArg some h4
      have hb' : (0 : Int) ≤ j := hb
      have key : (Instr.index t (.string s) (.int k j)).run P w = .ok (.int .u8 b.toNat) w := by
        unfold Instr.index asIntOf
        rw [pure_bind]
        show Sem.run P (_ >>= _) w = _
        rw [Sem.run_bind, run_underlying hf]
        simp only [Result.andThen_ok]
        rw [if_pos hb', hget]
        rfl
      simp only [execOp, ho, e1, e2, Sem.run_bind, key, Result.andThen_ok, Sem.run_pure]
    · cases hk
  · cases hk

theorem op_mnx {mx : Bool} {c : Call} {x y : Operand} {x' y' : AX} (ho : o.op = .call c) (hc : c.callee = .builtin (if mx then .max else .min)) (hargs : c.args.toList = [x, y]) (hx : ax0 P x = some x') (hy : ax0 P y = some y')
    (h : FR G w tt a.tmps) (hk : kernP (.mnx mx x' y') tt = some v) : Gives P o a w G v := by
  simp only [kernP] at hk
  split at hk
  · rename_i k p k' q hv hu
    split at hk
    · rename_i hkk; subst hkk
      cases hk
      have e1 := RV.int_inv (h.opdv hx hv)
      have e2 := RV.int_inv (h.opdv hy hu)
      have ha : c.args = #[x, y] := by apply Array.ext'; simpa using hargs
      refine ⟨.int k (if mx then (if q > p then q else p) else (if q < p then q else p)), ?_, .int _ _⟩
      obtain ⟨cs, hb⟩ := execOp_builtin (ρ := a.eval) ho hc
      rw [hb]
      cases mx <;> simp [ha, builtin, Builtin.max_, Builtin.min_, Builtin.max2, Builtin.min2, e1, e2]
    · cases hk
  · cases hk

theorem leavesEq_append : ∀ {ks ls : List EK} {a c b d : List PV} {r : Bool}, a.length = ks.length → c.length = ks.length → leavesEq (ks ++ ls) (a ++ b) (c ++ d) = some r →
    ∃ r1 r2, leavesEq ks a c = some r1 ∧ leavesEq ls b d = some r2 ∧ r = (r1 && r2)
  | [], ls, [], [], b, d, r, _, _, h => ⟨true, r, rfl, h, by simp⟩
  | k :: ks, ls, x :: a, y :: c, b, d, r, h1, h2, h => by
    simp only [List.cons_append, leavesEq] at h
    split at h
    · rename_i p q h3 h4
      cases h
      obtain ⟨r1, r2, g1, g2, rfl⟩ := leavesEq_append (by simpa using h1) (by simpa using h2) h4
      exact ⟨p && r1, r2, by simp [leavesEq, h3, g1], g2, by simp [Bool.and_assoc]⟩
    · cases h
  | [], _, _ :: _, _, _, _, _, h1, _, _ => by simp at h1
  | [], _, [], _ :: _, _, _, _, _, h2, _ => by simp at h2
  | _ :: _, _, [], _, _, _, _, h1, _, _ => by simp at h1
  | _ :: _, _, _ :: _, [], _, _, _, _, h2, _ => by simp at h2

theorem leavesEq_len : ∀ {ks : List EK} {a c : List PV} {r : Bool}, leavesEq ks a c = some r → a.length = ks.length ∧ c.length = ks.length
  | [], [], [], _, _ => ⟨rfl, rfl⟩
  | k :: ks, x :: a, y :: c, r, h => by
    simp only [leavesEq] at h
    split at h
    · rename_i p q h3 h4
      have := leavesEq_len h4
      simp [this.1, this.2]
    · cases h
  | [], _ :: _, _, _, h => by simp [leavesEq] at h
  | [], [], _ :: _, _, h => by simp [leavesEq] at h
  | _ :: _, [], _, _, h => by simp [leavesEq] at h
  | _ :: _, _ :: _, [], _, h => by simp [leavesEq] at h

def PtsE (G : Gh) (w : World) (us : Array Value) (xs : List PV) : Prop := us.size = xs.length ∧ ∀ (k : Nat) u y, us[k]? = some u → xs[k]? = some y → RV G w u y

theorem PtsE.seg {us : Array Value} {xs : List PV} (h : PtsE G w us xs) {off sz : Nat} (hle : off + sz ≤ xs.length) : PtsE G w (us.extract off (off + sz)) ((xs.drop off).take sz) := by
  refine ⟨by simp; have := h.1; omega, ?_⟩
  intro k u y hu hy
  rw [Array.getElem?_extract] at hu
  split at hu
  · rw [List.getElem?_take] at hy
    split at hy
    · rw [List.getElem?_drop] at hy
      exact h.2 _ _ _ hu hy
    · cases hy
  · cases hu

theorem scalar_eq {k : EK} {x y : PV} {u v : Value} {b : Bool} (hb : leafEq k x y = some b) (h1 : RV G w u x) (h2 : RV G w v y) {t : TypeId} {d : Nat}
    (ht : (k = .b ∧ P.underlying t = some .bool) ∨ (k = .i ∧ ∃ q, P.underlying t = some (.int q)) ∨ (k = .s ∧ P.underlying t = some .string)) :
    (Op.equalIn (d + 1) t u v).run P w = .ok b w := by
  unfold leafEq at hb
  split at hb
  · split at hb
    · rename_i hk'; subst hk'
      cases hb
      rcases ht with ⟨e, _⟩ | ⟨_, q, hq⟩ | ⟨e, _⟩
      · cases e
      · rw [RV.int_inv h1, RV.int_inv h2, run_equalIn_int w d t _ q _ _ hq]
      · cases e
    · cases hb
  · cases hb
    rcases ht with ⟨_, hq⟩ | ⟨e, _⟩ | ⟨e, _⟩
    · rw [RV.bool_inv h1, RV.bool_inv h2, run_equalIn_bool' w d t _ _ hq]
    · cases e
    · cases e
  · cases hb
    rename_i p q
    rcases ht with ⟨e, _⟩ | ⟨e, _⟩ | ⟨_, hq⟩
    · cases e
    · cases e
    · rw [RV.str_inv h1, RV.str_inv h2, run_equalIn_string w d t _ _ hq]
      congr 1
      exact (beq_toListBytes p q).symm
  · cases hb

theorem run_isAgg_scalar {t : TypeId} {d : TypeDesc} (ht : P.underlying t = some d) (hd : (∀ fs, d ≠ .struct fs) ∧ ∀ k e, d ≠ .array k e) : (isAgg t).run P w = .ok false w := by
  rw [run_isAgg ht]
  cases d <;> first | rfl | exact absurd rfl (hd.1 _) | exact absurd rfl (hd.2 _ _)

theorem Program.fieldsOf_eq {t : TypeId} {fs : Array Field} (h : P.underlying t = some (.struct fs)) : P.fieldsOf t = fs := by
  simp [Program.fieldsOf, h]

/-- Equality of values of such a type, at a place of larger ones. -/
theorem run_equalIn_plain : ∀ (n : Nat) (t : TypeId) (ks : List EK), kindsT P n t = some ks → sizeT P t = some ks.length ∧ ∀ (d : Nat) (us vs : Array Value) (xs ys : List PV) (off : Nat) (b : Bool), n ≤ d →
    PtsE G w us xs → PtsE G w vs ys → off + ks.length ≤ xs.length → off + ks.length ≤ ys.length → leavesEq ks ((xs.drop off).take ks.length) ((ys.drop off).take ks.length) = some b →
    ∃ p q, (part t us off).run P w = .ok p w ∧ (part t vs off).run P w = .ok q w ∧ (Op.equalIn d t p q).run P w = .ok b w := by
  intro n
  induction n with
  | zero => intro t ks h; simp [kindsT] at h
  | succ n ih =>
    intro t ks h
    have scal : ∀ {k : EK} {d : TypeDesc}, P.underlying t = some d → ((∀ fs, d ≠ .struct fs) ∧ ∀ k e, d ≠ .array k e) →
        ((k = .b ∧ P.underlying t = some .bool) ∨ (k = .i ∧ ∃ q, P.underlying t = some (.int q)) ∨ (k = .s ∧ P.underlying t = some .string)) → sizeT P t = some 1 → ks = [k] →
        sizeT P t = some ks.length ∧ ∀ (d : Nat) (us vs : Array Value) (xs ys : List PV) (off : Nat) (b : Bool), n + 1 ≤ d →
          PtsE G w us xs → PtsE G w vs ys → off + ks.length ≤ xs.length → off + ks.length ≤ ys.length → leavesEq ks ((xs.drop off).take ks.length) ((ys.drop off).take ks.length) = some b →
          ∃ p q, (part t us off).run P w = .ok p w ∧ (part t vs off).run P w = .ok q w ∧ (Op.equalIn d t p q).run P w = .ok b w := by
      intro k d hd hns hk hs hks
      subst hks
      refine ⟨hs, ?_⟩
      intro dd us vs xs ys off b hdd h1 h2 h3 h4 h5
      obtain ⟨dd, rfl⟩ : ∃ m, dd = m + 1 := ⟨dd - 1, by omega⟩
      have l1 : off < us.size := by rw [h1.1]; simp at h3; omega
      have l2 : off < vs.size := by rw [h2.1]; simp at h4; omega
      have e1 : (xs.drop off).take 1 = [xs[off]'(by rw [← h1.1]; exact l1)] := by
        rw [List.drop_eq_getElem_cons (by rw [← h1.1]; exact l1)]; rfl
      have e2 : (ys.drop off).take 1 = [ys[off]'(by rw [← h2.1]; exact l2)] := by
        rw [List.drop_eq_getElem_cons (by rw [← h2.1]; exact l2)]; rfl
      simp only [List.length_cons, List.length_nil, Nat.zero_add] at h5
      rw [e1, e2] at h5
      simp only [leavesEq] at h5
      split at h5
      · rename_i p q h6 h7
        cases h7; cases h5
        refine ⟨us[off], vs[off], ?_, ?_, ?_⟩
        · simp [part, run_isAgg_scalar hd hns, l1]
        · simp [part, run_isAgg_scalar hd hns, l2]
        · rw [Bool.and_true]
          exact scalar_eq h6 (h1.2 off _ _ (by simp [l1]) (by simp)) (h2.2 off _ _ (by simp [l2]) (by simp)) hk
      · cases h5
    simp only [kindsT] at h
    split at h
    · rename_i hu; split at h
      · rename_i hs; cases h; exact scal hu (by simp) (.inl ⟨rfl, hu⟩) hs rfl
      · cases h
    · rename_i q hu; split at h
      · rename_i hs; cases h; exact scal hu (by simp) (.inr (.inl ⟨rfl, q, hu⟩)) hs rfl
      · cases h
    · rename_i hu; split at h
      · rename_i hs; cases h; exact scal hu (by simp) (.inr (.inr ⟨rfl, hu⟩)) hs rfl
      · cases h
    · rename_i fs hu
      split at h
      · rename_i hc
        obtain ⟨hst, hct, hnm⟩ := hc
        -- the fields, one behind the other
        have key : ∀ (fl : List Field) (ks : List EK) (o0 : Nat), fl.foldr (fun f r => match kindsT P n f.type, r with | some a, some b => some (a ++ b) | _, _ => none) (some []) = some ks → (fl.all (fun f => f.name != "_")) = true →
            ∀ m, contig P fl o0 = some m → m = o0 + ks.length ∧ ∀ (d : Nat) (us vs : Array Value) (xs ys : List PV) (b : Bool), n ≤ d →
            PtsE G w us xs → PtsE G w vs ys → o0 + ks.length ≤ xs.length → o0 + ks.length ≤ ys.length → leavesEq ks ((xs.drop o0).take ks.length) ((ys.drop o0).take ks.length) = some b →
            (Op.eqFields d us vs fl).run P w = .ok b w := by
          intro fl
          induction fl with
          | nil =>
            intro ks o0 hk _ m hm
            simp at hk; subst hk
            simp [contig] at hm
            refine ⟨by simp [hm], ?_⟩
            intro d us vs xs ys b _ _ _ _ _ hb
            simp [leavesEq] at hb
            simp [Op.eqFields, hb]
          | cons f fl ihf =>
            intro ks o0 hk hnm m hm
            simp only [List.foldr_cons] at hk
            split at hk
            · rename_i k1 k2 h1 h2
              cases hk
              simp only [List.all_cons, Bool.and_eq_true] at hnm
              simp only [contig] at hm
              split at hm
              · rename_i ho
                split at hm
                · rename_i sz hsz
                  obtain ⟨g1, g2⟩ := ih f.type k1 h1
                  rw [g1] at hsz; cases hsz
                  obtain ⟨g3, g4⟩ := ihf k2 (o0 + k1.length) h2 hnm.2 m hm
                  refine ⟨by simp [g3]; omega, ?_⟩
                  intro d us vs xs ys b hd p1 p2 l1 l2 hb
                  simp only [List.length_append] at l1 l2 hb
                  have s1 : (xs.drop o0).take (k1.length + k2.length) = (xs.drop o0).take k1.length ++ (xs.drop (o0 + k1.length)).take k2.length := by
                    rw [List.take_add, List.drop_drop]
                  have s2 : (ys.drop o0).take (k1.length + k2.length) = (ys.drop o0).take k1.length ++ (ys.drop (o0 + k1.length)).take k2.length := by
                    rw [List.take_add, List.drop_drop]
                  rw [s1, s2] at hb
                  obtain ⟨r1, r2, hb1, hb2, rfl⟩ := leavesEq_append (by simp; omega) (by simp; omega) hb
                  obtain ⟨p, q, hp, hq, he⟩ := g2 d us vs xs ys o0 r1 hd p1 p2 (by omega) (by omega) hb1
                  have hr := g4 d us vs xs ys r2 hd p1 p2 (by omega) (by omega) hb2
                  have hne : f.name ≠ "_" := by simpa using hnm.1
                  subst ho
                  simp only [Op.eqFields, hne, ne_eq, not_false_eq_true, if_true, Sem.run_bind, hp, hq, Result.andThen_ok, he]
                  cases r1 with
                  | true => simpa using hr
                  | false => simp
                · cases hm
              · cases hm
            · cases hk
        have hlen : ∃ m, contig P fs.toList 0 = some m := by
          rw [hct]
          cases hs : sizeT P t with
          | some m => exact ⟨m, rfl⟩
          | none =>
            -- a struct has a size
            rw [hs] at hct
            exfalso
            have : ∀ (fl : List Field) (ks : List EK) (o0 : Nat), fl.foldr (fun f r => match kindsT P n f.type, r with | some a, some b => some (a ++ b) | _, _ => none) (some []) = some ks → contig P fl o0 ≠ none ∨ ∃ f ∈ fl, True := by
              intro fl ks o0 _; cases fl with
              | nil => exact .inl (by simp [contig])
              | cons f fl => exact .inr ⟨f, by simp, trivial⟩
            unfold sizeT at hs
            cases hi : P.info? t with
            | none => simp [Program.underlying, hi] at hu
            | some i => simp [hi] at hs
        obtain ⟨m, hm⟩ := hlen
        obtain ⟨g1, g2⟩ := key fs.toList ks 0 h hnm m hm
        have hsz : sizeT P t = some ks.length := by rw [← hct, hm, g1]; simp
        refine ⟨hsz, ?_⟩
        intro d us vs xs ys off b hd p1 p2 l1 l2 hb
        obtain ⟨d, rfl⟩ : ∃ m, d = m + 1 := ⟨d - 1, by omega⟩
        refine ⟨.agg (us.extract off (off + ks.length)), .agg (vs.extract off (off + ks.length)), ?_, ?_, ?_⟩
        · simp only [part, Sem.run_bind, run_isAgg hu, Result.andThen_ok, if_true, run_sizeOf hsz, Sem.run_pure]
        · simp only [part, Sem.run_bind, run_isAgg hu, Result.andThen_ok, if_true, run_sizeOf hsz, Sem.run_pure]
        · have hfo := Program.fieldsOf_eq hu
          rw [run_equalIn_struct w d t _ _ (by rw [hfo]; exact hu) hst, hfo]
          refine g2 d _ _ _ _ b (by omega) (p1.seg l1) (p2.seg l2) (by simp; omega) (by simp; omega) ?_
          simpa [List.take_take] using hb
      · cases h
    · cases h

theorem op_eqs {op : BinOp} {t yt : TypeId} {x y : Operand} {x' y' : AX} {neg : Bool} {ks : List EK} {fs : Array Field} (ho : o.op = .binOp op t x y yt) (hx : ax P t x = some x') (hy : ax P t y = some y') (hop : op = if neg then .neq else .eql)
    (hf : P.underlying t = some (.struct fs)) (hg : P.eqGuardType P.depth t = false) (hks : kindsT P 12 t = some ks) (h : FR G w tt a.tmps) (hk : kernP (.eqs neg ks x' y') tt = some v) : Gives P o a w G v := by
  simp only [kernP] at hk
  split at hk
  · rename_i xs ys hv hu
    simp only [Option.map_eq_some_iff] at hk
    obtain ⟨b, hb, rfl⟩ := hk
    obtain ⟨us, e1, p1, _, p2⟩ := (h.opdv hx hv).agg_inv
    obtain ⟨vs, e2, q1, _, q2⟩ := (h.opdv hy hu).agg_inv
    obtain ⟨l1, l2⟩ := leavesEq_len hb
    obtain ⟨g1, g2⟩ := run_equalIn_plain (G := G) (w := w) 12 t ks hks
    have hb' : leavesEq ks ((xs.drop 0).take ks.length) ((ys.drop 0).take ks.length) = some b := by
      rw [List.drop_zero, List.drop_zero, List.take_of_length_le (by omega), List.take_of_length_le (by omega)]; exact hb
    obtain ⟨p, q, hp, hq, he⟩ := g2 10000 us vs xs ys 0 b (by omega) ⟨p1, p2⟩ ⟨q1, q2⟩ (by omega) (by omega) hb'
    have ea : ∀ (zs : Array Value), zs.size = ks.length → (part t zs 0).run P w = .ok (.agg zs) w := by
      intro zs hz
      simp only [part, Sem.run_bind, run_isAgg hf, Result.andThen_ok, if_true, run_sizeOf g1, Sem.run_pure]
      rw [Nat.zero_add, ← hz, Array.extract_size]
    rw [ea us (by omega)] at hp; rw [ea vs (by omega)] at hq
    cases hp; cases hq
    refine ⟨.bool (b != neg), ?_, .bool _⟩
    have hR : (execOp a.eval o).run P w = ((Go.binOp op t (.agg us) (.agg vs)).run P w).andThen fun v w' => .ok (.value v) w' := by
      simp only [execOp, ho, e1, e2, Sem.run_bind, run_eqGuard_agg w _ t x y us vs hg, Result.andThen_ok, bind_pure_comp, Sem.run_map]
    rw [hR]
    cases neg
    · subst hop
      simp only [Bool.false_eq_true, if_false]
      rw [run_eql_struct, he]
      simp
    · subst hop
      simp only [if_true]
      rw [run_neq_struct, he]
      simp
  · cases hk

theorem Addr.add_plain (b o n : Nat) : Addr.add ⟨b, o, none⟩ n = ⟨b, o + n, none⟩ := by
  unfold Addr.add; split
  · rename_i h; simp [h]
  · rfl

theorem op_nilck {x : Operand} {x' : AX} (ho : o.op = .nilCheck x) (hx : ax0 P x = some x') (h : FR G w tt a.tmps) (hk : kernP (.nilck x') tt = some v) : Gives P o a w G v := by
  have e1 := h.opd hx
  simp only [kernP] at hk
  split at hk
  · rename_i cs hs
    cases hk; rw [hs] at e1
    generalize hE : a.eval x = vx at e1
    refine ⟨vx, ?_, e1⟩
    cases e1; simp [execOp, ho, hE]
  · rename_i i off hs
    cases hk; rw [hs] at e1
    generalize hE : a.eval x = vx at e1
    refine ⟨vx, ?_, e1⟩
    cases e1; simp [execOp, ho, hE]
  · rename_i f u z hs
    cases hk; rw [hs] at e1
    generalize hE : a.eval x = vx at e1
    refine ⟨vx, ?_, e1⟩
    cases e1; simp [execOp, ho, hE]
  · cases hk

theorem op_faddr {t : TypeId} {fi n : Nat} {f : Field} {fs : Array Field} {x : Operand} {x' : AX} (ho : o.op = .fieldAddr t x fi) (hf : P.underlying t = some (.struct fs)) (hfi : fs[fi]? = some f) (hs : sizeT P f.type = some n) (hn : n ≠ 0)
    (hx : ax0 P x = some x') (h : FR G w tt a.tmps) (hk : kernP (.faddr x' f.offset) tt = some v) : Gives P o a w G v := by
  have hp : ∀ b off, a.eval x = .pointer (some ⟨b, off, none⟩) → (execOp a.eval o).run P w = .ok (.value (.pointer (some ⟨b, off + f.offset, none⟩))) w := by
    intro b off hz
    simp [execOp, ho, hz, Instr.fieldAt, run_underlying hf, hfi, Instr.sureAddr, fieldPlace, run_sizeOf hs, hn, Addr.add_plain]
  have e1 := h.opd hx
  simp only [kernP] at hk
  split at hk
  · rename_i cs hs
    cases hk; rw [hs] at e1
    generalize hE : a.eval x = vx at e1
    cases e1 with
    | fpp h0 h1 h2 =>
      refine ⟨_, hp _ _ hE, .fpp (fun y hy => h0 y (List.mem_of_mem_drop hy)) ?_ ?_⟩
      · intro k hk
        have := h1 (f.offset + k) (by simp at hk; omega)
        rw [← Nat.add_assoc] at this; exact this
      · intro k y u hy hu
        rw [List.getElem?_drop] at hy
        refine h2 _ y u hy ?_
        rw [← Nat.add_assoc]; exact hu
  · rename_i i off hs
    cases hk; rw [hs] at e1
    generalize hE : a.eval x = vx at e1
    cases e1 with
    | ptr _ hb => exact ⟨_, hp _ _ hE, .ptr _ hb⟩
  · cases hk

theorem elemT_spec {t el : TypeId} (h : elemT P t = some el) : P.underlying t = some (.slice el) := by
  unfold elemT at h
  split at h
  · cases h; assumption
  · cases h

theorem run_indexAt {t el : TypeId} {sz : Nat} (ht : P.underlying t = some (.slice el)) (hs : sizeT P el = some sz) {b off len cap : Nat} {k : IntKind} {i : Int} (h0 : 0 ≤ i) (h1 : i < (len : Int)) :
    (Instr.indexAt t (.slice (some ⟨b, off, none⟩) len cap) (.int k i)).run P w = .ok (.pointer (some ⟨b, off + i.toNat * sz, none⟩)) w := by
  simp only [Instr.indexAt, asIntOf, pure_bind, Sem.run_bind, run_underlying ht, Result.andThen_ok]
  simp [h0, h1, run_sizeOf hs, Addr.add_plain, run_underlying ht]

theorem op_iaddr {t el : TypeId} {sz : Nat} {x i : Operand} {x' i' : AX} (ho : o.op = .indexAddr t x i) (ht : P.underlying t = some (.slice el)) (hs : sizeT P el = some sz)
    (hx : ax P t x = some x') (hi : ax0 P i = some i') (h : FR G w tt a.tmps) (hk : kernP (.iaddr sz x' i') tt = some v) : Gives P o a w G v := by
  simp only [kernP] at hk
  split at hk
  · rename_i k j hj
    have e2 := RV.int_inv (h.opdv hi hj)
    have hp : ∀ b off len cap, a.eval x = .slice (some ⟨b, off, none⟩) len cap → 0 ≤ j → j < (len : Int) → (execOp a.eval o).run P w = .ok (.value (.pointer (some ⟨b, off + j.toNat * sz, none⟩))) w := by
      intro b off len cap hz h0 h1
      simp only [execOp, ho, hz, e2, Sem.run_bind, run_indexAt ht hs h0 h1, Result.andThen_ok, Sem.run_pure]
    split at hk
    · rename_i tk sz' xs hs'
      split at hk
      · rename_i hc
        obtain ⟨rfl, h0⟩ := hc
        simp only [Option.map_eq_some_iff] at hk
        obtain ⟨v, hv, rfl⟩ := hk
        have hlt := (List.getElem?_eq_some_iff.1 hv).1
        have hr := h.opdv hx hs'
        generalize hE : a.eval x = vx at hr
        cases hr with
        | sl h1 h2 h3 h4 h5 h6 =>
          rename_i b o' cap
          have hsz := h3 v (List.mem_of_getElem? hv)
          refine ⟨_, hp _ _ _ _ hE h0 (by omega), .fpp (h4 v (List.mem_of_getElem? hv)) ?_ ?_⟩
          · intro q hq
            have := h5 j.toNat q hlt (by omega)
            rw [Nat.add_assoc]; exact this
          · intro q y u hy hu
            rw [Nat.add_assoc] at hu
            exact h6 j.toNat q v y u hv hy hu
        | slE h1 => simp at hlt
      · cases hk
    · rename_i i0 off n sz' hs'
      split at hk
      · rename_i hc
        obtain ⟨rfl, h0, hlt⟩ := hc
        cases hk
        have hr := h.opdv hx hs'
        generalize hE : a.eval x = vx at hr
        cases hr with
        | slv h1 h2 h3 => exact ⟨_, hp _ _ _ _ hE h0 hlt, .ptr _ h1⟩
        | slvE => simp at hlt; omega
      · cases hk
    · cases hk
  · cases hk

theorem RV.sl_len {v : Value} {t : Tok} {sz : Nat} {xs : List PV} (h : RV G w v (.sl t sz xs)) : ∃ b cap, v = .slice b xs.length cap ∧ xs.length ≤ cap ∧ (t = .full → cap = xs.length) := by
  cases h with
  | sl h1 h2 => exact ⟨_, _, rfl, h1, fun e => by subst e; exact h2⟩
  | slE h1 => exact ⟨_, _, rfl, Nat.zero_le _, fun e => by subst e; exact h1⟩

theorem RV.slv_len {v : Value} {i off n sz : Nat} (h : RV G w v (.slv i off n sz)) : ∃ b cap, v = .slice b n cap ∧ n ≤ cap := by
  cases h with
  | slv h1 h2 => exact ⟨_, _, rfl, h2⟩
  | slvE => exact ⟨_, _, rfl, Nat.zero_le _⟩

theorem run_len {ts : Array TypeId} {t ty el : TypeId} (hts : ts.toList = [t]) (ht : P.underlying t = some (.slice el)) (b : Option Addr) (n cap : Nat) :
    (Builtin.len_ ts ty #[.slice b n cap]).run P w = .ok (.int .i64 n) w := by
  have : ts = #[t] := by apply Array.ext'; simpa using hts
  subst this
  simp [Builtin.len_, run_underlying ht, goInt]

theorem op_len {c : Call} {t el : TypeId} {x : Operand} {x' : AX} (ho : o.op = .call c) (hc : c.callee = .builtin .len) (hts : c.argTypes.toList = [t]) (hargs : c.args.toList = [x])
    (ht : P.underlying t = some (.slice el)) (hx : ax P t x = some x') (h : FR G w tt a.tmps) (hk : kernP (.len x') tt = some v) : Gives P o a w G v := by
  have ha : c.args = #[x] := by apply Array.ext'; simpa using hargs
  obtain ⟨cs, hb⟩ := execOp_builtin (ρ := a.eval) ho hc
  have hR : ∀ b n cap, a.eval x = .slice b n cap → (execOp a.eval o).run P w = .ok (.value (.int .i64 n)) w := by
    intro b n cap hv
    rw [hb]
    simp [ha, builtin, hv, run_len hts ht]
  simp only [kernP] at hk
  split at hk
  · rename_i hl
    cases hk
    obtain ⟨b, cap, hv, _⟩ := (h.opdv hx hl).sl_len
    exact ⟨_, hR _ _ _ hv, .int _ _⟩
  · rename_i hl
    cases hk
    obtain ⟨b, cap, hv, _⟩ := (h.opdv hx hl).slv_len
    exact ⟨_, hR _ _ _ hv, .int _ _⟩
  · cases hk

theorem op_slen {c : Call} {t : TypeId} {x : Operand} {x' : AX} (ho : o.op = .call c) (hc : c.callee = .builtin .len) (hts : c.argTypes.toList = [t]) (hargs : c.args.toList = [x])
    (ht : P.underlying t = some .string) (hx : ax P t x = some x') (h : FR G w tt a.tmps) (hk : kernP (.slen x') tt = some v) : Gives P o a w G v := by
  have ha : c.args = #[x] := by apply Array.ext'; simpa using hargs
  have hta : c.argTypes = #[t] := by apply Array.ext'; simpa using hts
  obtain ⟨cs, hb⟩ := execOp_builtin (ρ := a.eval) ho hc
  simp only [kernP] at hk
  split at hk
  · rename_i s hl
    cases hk
    have hv := RV.str_inv (h.opdv hx hl)
    refine ⟨.int .i64 s.size, ?_, .int _ _⟩
    rw [hb]
    simp [ha, hta, builtin, hv, Builtin.len_, run_underlying ht, goInt]
  · cases hk

theorem axo_some {x : Operand} {y : Option AX} (h : axo P (some x) = some y) : ∃ z, y = some z ∧ ax0 P x = some z := by
  simp only [axo, Option.map_eq_some_iff] at h
  obtain ⟨z, hz, rfl⟩ := h
  exact ⟨z, rfl, hz⟩

theorem axo_none {y : Option AX} (h : axo P none = some y) : y = none := by
  simp only [axo] at h; cases h; rfl

/-- Bounds as the model reads them. -/
theorem run_bounds {lo hi : Option Operand} {lo' hi' : Option AX} (hlo : axo P lo = some lo') (hhi : axo P hi = some hi') (h : FR G w tt a.tmps) {len cap l hh : Nat} (hb : boundsOf tt len lo' hi' = some (l, hh)) (hlc : len ≤ cap) :
    l ≤ hh ∧ hh ≤ len ∧ (∀ isS, (Instr.sliceBounds isS len cap (lo.map a.eval) (hi.map a.eval) none).run P w = .ok (l, hh, cap) w) ∧
      ∀ k, hi.isSome = true → (Instr.sliceBounds true len cap (lo.map a.eval) (hi.map a.eval) (some (.int k hh))).run P w = .ok (l, hh, hh) w := by
  unfold boundsOf at hb
  -- the high one
  have hH : ∀ q, hiOf tt len hi' = some q → q ≤ len ∧ (hi = none ∧ q = len ∨ ∃ k x, hi = some x ∧ a.eval x = .int k q) := by
    intro q hm
    cases hi with
    | none =>
      obtain rfl := axo_none hhi
      simp [hiOf] at hm; subst hm; exact ⟨Nat.le_refl _, .inl ⟨rfl, rfl⟩⟩
    | some x =>
      obtain ⟨z, rfl, hz⟩ := axo_some hhi
      simp only [hiOf] at hm
      split at hm
      · rename_i k n hv
        split at hm
        · rename_i hc
          cases hm
          refine ⟨by omega, .inr ⟨k, x, rfl, ?_⟩⟩
          rw [RV.int_inv (h.opdv hz hv)]
          congr 1; omega
        · cases hm
      · cases hm
  split at hb
  · cases hb
  · rename_i q hq
    obtain ⟨hq1, hq2⟩ := hH q hq
    have hL : l ≤ hh ∧ hh = q ∧ (lo = none ∧ l = 0 ∨ ∃ k x, lo = some x ∧ a.eval x = .int k l) := by
      cases lo with
      | none =>
        obtain rfl := axo_none hlo
        simp at hb
        exact ⟨by omega, hb.2.symm, .inl ⟨rfl, hb.1.symm⟩⟩
      | some x =>
        obtain ⟨z, rfl, hz⟩ := axo_some hlo
        simp only at hb
        split at hb
        · rename_i k n hv
          split at hb
          · rename_i hc
            simp only [Option.some.injEq, Prod.mk.injEq] at hb
            refine ⟨by omega, hb.2.symm, .inr ⟨k, x, rfl, ?_⟩⟩
            rw [RV.int_inv (h.opdv hz hv)]
            congr 1; omega
          · cases hb
        · cases hb
    obtain ⟨hle, rfl, hl⟩ := hL
    have sb : ∀ (k : IntKind) (n y : Nat) (code : BoundsCode), n ≤ y → (Instr.sliceBound (.int k n) y code).run P w = .ok n w := by
      intro k n y code hn
      rw [run_sliceBound w k (n : Int) y code (by omega) (by omega)]
      simp
    refine ⟨hle, hq1, ?_, ?_⟩
    · intro isS
      rcases hq2 with ⟨rfl, rfl⟩ | ⟨k, x, rfl, hx⟩ <;> rcases hl with ⟨rfl, rfl⟩ | ⟨k', x', rfl, hx'⟩
      · simp [Instr.sliceBounds]
      · simp [Instr.sliceBounds, hx', sb _ _ _ _ hle]
      · simp [Instr.sliceBounds, hx, sb _ _ _ _ (Nat.le_trans hq1 hlc)]
      · simp [Instr.sliceBounds, hx, hx', sb _ _ _ _ (Nat.le_trans hq1 hlc), sb _ _ _ _ hle]
    · intro k0 hs
      rcases hq2 with ⟨rfl, _⟩ | ⟨k, x, rfl, hx⟩
      · simp at hs
      · rcases hl with ⟨rfl, rfl⟩ | ⟨k', x', rfl, hx'⟩
        · simp [Instr.sliceBounds, hx, sb _ _ _ _ (Nat.le_trans hq1 hlc), sb _ hh hh _ (Nat.le_refl _)]
        · simp [Instr.sliceBounds, hx, hx', sb _ _ _ _ (Nat.le_trans hq1 hlc), sb _ hh hh _ (Nat.le_refl _), sb _ _ _ _ hle]

theorem op_sstr {t : TypeId} {x : Operand} {lo hi : Option Operand} {x' : AX} {lo' hi' : Option AX} (ho : o.op = .slice t x lo hi none) (ht : P.underlying t = some .string) (hx : ax P t x = some x') (hlo : axo P lo = some lo') (hhi : axo P hi = some hi')
    (h : FR G w tt a.tmps) (hk : kernP (.sstr x' lo' hi') tt = some v) : Gives P o a w G v := by
  simp only [kernP] at hk
  split at hk
  · rename_i s hl
    split at hk
    · rename_i l hh hb
      cases hk
      have hv := RV.str_inv (h.opdv hx hl)
      obtain ⟨_, _, hr, _⟩ := run_bounds hlo hhi h hb (Nat.le_refl _)
      refine ⟨.string (s.extract l hh), ?_, .str _⟩
      simp [execOp, ho, Instr.sliceAt, run_underlying ht, Instr.slice, hv, hr]
    · cases hk
  · cases hk

end
end Go.Bm

/- The second abstract machine: parts of slices; structs and slices that are built. -/
namespace Go.Bm
open Go

section
variable {P : Program} {o : Oper} {a : Act} {w : World} {G : Gh} {tt : Regs} {v : PV}

/-- A part of a frozen slice. -/
theorem RV.sl_part {v : Value} {tk : Tok} {sz : Nat} {xs : List PV} (h : RV G w v (.sl tk sz xs)) {l hh : Nat} (h1 : l ≤ hh) (h2 : hh ≤ xs.length) :
    ∃ b cap, v = .slice b xs.length cap ∧ xs.length ≤ cap ∧
      (∀ b', (b' = (if cap = l then b else b.map (·.add (l * sz)))) → RV G w (.slice b' (hh - l) (cap - l)) (.sl (cutTok tk xs.length hh false) sz ((xs.take hh).drop l))) ∧
      (∀ b', (b' = (if hh = l then b else b.map (·.add (l * sz)))) → RV G w (.slice b' (hh - l) (hh - l)) (.sl .full sz ((xs.take hh).drop l))) := by
  have hlen : ((xs.take hh).drop l).length = hh - l := by simp; omega
  cases h with
  | sl g1 g2 g3 g4 g5 g6 =>
    rename_i b o cap
    have hget : ∀ i, ((xs.take hh).drop l)[i]? = if i < hh - l then xs[l + i]? else none := by
      intro i
      rw [List.getElem?_drop, List.getElem?_take]
      by_cases hi : i < hh - l
      · rw [if_pos (by omega), if_pos hi]
      · rw [if_neg (by omega), if_neg hi]
    have hmem : ∀ x ∈ (xs.take hh).drop l, x ∈ xs := fun x hx => List.mem_of_mem_take (List.mem_of_mem_drop hx)
    have gen : ∀ (cap' : Nat) (tk' : Tok), hh - l ≤ cap' → TokR G tk' (hh - l) cap' (some (b, o + l * sz + (hh - l) * sz, o + l * sz + cap' * sz)) → RV G w (.slice (some ⟨b, o + l * sz, none⟩) (hh - l) cap') (.sl tk' sz ((xs.take hh).drop l)) := by
      intro cap' tk' hc hf
      have := RV.sl (G := G) (w := w) (t := tk') (sz := sz) (xs := (xs.take hh).drop l) (b := b) (o := o + l * sz) (cap := cap') (by omega) (by rw [hlen]; exact hf) (fun x hx => g3 x (hmem x hx)) (fun x hx => g4 x (hmem x hx)) ?_ ?_
      · rw [hlen] at this; exact this
      · intro i off hi ho
        have := g5 (l + i) off (by omega) ho
        rw [Nat.add_mul] at this
        rw [show o + l * sz + (i * sz + off) = o + (l * sz + i * sz + off) by omega]
        exact this
      · intro i off x y u hx hy hu
        rw [hget] at hx
        split at hx
        · refine g6 (l + i) off x y u hx hy ?_
          rw [Nat.add_mul]
          rw [show o + (l * sz + i * sz + off) = o + l * sz + (i * sz + off) by omega]
          exact hu
        · cases hx
    have gen0 : ∀ (cap' : Nat) (tk' : Tok) (bb : Option Addr), hh = l → TokR G tk' 0 cap' none → RV G w (.slice bb (hh - l) cap') (.sl tk' sz ((xs.take hh).drop l)) := by
      intro cap' tk' bb he hf
      have : (xs.take hh).drop l = [] := List.eq_nil_of_length_eq_zero (by omega)
      rw [this, show hh - l = 0 by omega]
      exact .slE hf
    refine ⟨some ⟨b, o, none⟩, cap, rfl, g1, ?_, ?_⟩
    · intro b' hb'
      by_cases hcl : cap = l
      · rw [if_pos hcl] at hb'; subst hb'
        refine gen0 _ _ _ (by omega) ?_
        simp only [cutTok, Bool.false_eq_true, if_false]
        split
        · show cap - l = 0; omega
        · trivial
      · rw [if_neg hcl] at hb'; subst hb'
        simp only [Option.map_some, Addr.add_plain]
        refine gen _ _ (by omega) ?_
        simp only [cutTok, Bool.false_eq_true, if_false]
        split
        · rename_i hhx
          obtain ⟨e1, rfl⟩ := hhx
          have : cap = xs.length := g2
          show cap - l = hh - l; omega
        · trivial
    · intro b' hb'
      by_cases hcl : hh = l
      · rw [if_pos hcl] at hb'; subst hb'
        exact gen0 _ _ _ hcl (by show hh - l = 0; omega)
      · rw [if_neg hcl] at hb'; subst hb'
        simp only [Option.map_some, Addr.add_plain]
        exact gen _ _ (by omega) rfl
  | slE g1 =>
    rename_i bb cap
    simp only [List.length_nil, Nat.le_zero_eq] at h2
    subst h2
    have : l = 0 := by omega
    subst this
    refine ⟨bb, cap, rfl, Nat.zero_le _, fun b' _ => ?_, fun b' _ => ?_⟩
    · simp only [List.take_nil, List.drop_nil, Nat.sub_zero]
      refine .slE ?_
      simp only [cutTok, Bool.false_eq_true, if_false, List.length_nil]
      split
      · rename_i hc
        obtain ⟨_, rfl⟩ := hc
        exact g1
      · trivial
    · simp only [List.take_nil, List.drop_nil, Nat.sub_zero]
      exact .slE rfl

theorem op_slice {t el : TypeId} {sz : Nat} {x : Operand} {lo hi mx : Option Operand} {x' : AX} {lo' hi' mx' : Option AX} (ho : o.op = .slice t x lo hi mx) (ht : P.underlying t = some (.slice el)) (hs : sizeT P el = some sz)
    (hx : ax P t x = some x') (hlo : axo P lo = some lo') (hhi : axo P hi = some hi') (hmx : axo P mx = some mx') (hmh : mx.isSome = true → hi.isSome = true)
    (h : FR G w tt a.tmps) (hk : kernP (.slice sz x' lo' hi' mx') tt = some v) : Gives P o a w G v := by
  simp only [kernP] at hk
  -- what the model makes of a slice and its bounds
  have hrun : ∀ {b : Option Addr} {n cap l hh : Nat}, a.eval x = .slice b n cap → n ≤ cap → boundsOf tt n lo' hi' = some (l, hh) → maxOk tt hh mx' = true →
      (mx' = none ∧ (execOp a.eval o).run P w = .ok (.value (.slice (if cap = l then b else b.map (·.add (l * sz))) (hh - l) (cap - l))) w) ∨
      (mx'.isSome = true ∧ (execOp a.eval o).run P w = .ok (.value (.slice (if hh = l then b else b.map (·.add (l * sz))) (hh - l) (hh - l))) w) := by
    intro b n cap l hh hE hcap hb hm
    obtain ⟨_, _, hr, hr2⟩ := run_bounds hlo hhi h hb hcap
    cases mx with
    | none =>
      obtain rfl := axo_none hmx
      exact .inl ⟨rfl, by simp [execOp, ho, Instr.sliceAt, run_underlying ht, Instr.slice, hE, hr, run_sizeOf hs]⟩
    | some y =>
      obtain ⟨z, rfl, hz⟩ := axo_some hmx
      simp only [maxOk] at hm
      split at hm
      · rename_i k n' hn
        have hy := RV.int_inv (h.opdv hz hn)
        have hnh : n' = (hh : Int) := by simpa using hm
        subst hnh
        exact .inr ⟨rfl, by simp [execOp, ho, Instr.sliceAt, run_underlying ht, Instr.slice, hE, hy, hr2 k (hmh rfl), run_sizeOf hs]⟩
      · cases hm
  split at hk
  · rename_i tk sz' xs hl
    split at hk
    · rename_i hsz; subst hsz
      split at hk
      · rename_i l hh hb
        split at hk
        · rename_i hm
          cases hk
          have hv := h.opdv hx hl
          have hbb := run_bounds hlo hhi h hb (Nat.le_refl _)
          obtain ⟨b, cap, hE, hcap, r1, r2⟩ := hv.sl_part hbb.1 hbb.2.1
          rcases hrun hE hcap hb hm with ⟨rfl, hr⟩ | ⟨he, hr⟩
          · exact ⟨_, hr, r1 _ rfl⟩
          · refine ⟨_, hr, ?_⟩
            have : cutTok tk xs.length hh mx'.isSome = .full := by simp [cutTok, he]
            rw [this]
            exact r2 _ rfl
        · cases hk
      · cases hk
    · cases hk
  · rename_i i off n sz' hl
    split at hk
    · rename_i hsz; subst hsz
      split at hk
      · rename_i l hh hb
        split at hk
        · rename_i hm
          cases hk
          have hv := h.opdv hx hl
          have hbb := run_bounds hlo hhi h hb (Nat.le_refl _)
          have gen : ∀ (b : Option Addr) (cap' : Nat), hh - l ≤ cap' → ((hh - l = 0 ∧ cap' = 0) ∨ ∃ bb s, G.loc i = some (bb, s) ∧ b = some ⟨bb, off + l * sz, none⟩ ∧ off + l * sz + cap' * sz ≤ s) → RV G w (.slice b (hh - l) cap') (.slv i (off + l * sz) (hh - l) sz) := by
            intro b cap' h1 h2
            rcases h2 with ⟨e1, e2⟩ | ⟨bb, s, h2, rfl, h3⟩
            · rw [e1, e2]; exact .slvE
            · exact .slv h2 h1 h3
          generalize hE : a.eval x = vx at hv
          cases hv with
          | @slv _ _ _ _ b s cap h1 h2 h3 =>
            have hsz : ∀ q, l + q ≤ cap → off + l * sz + q * sz ≤ s := by
              intro q hq
              have := Nat.mul_le_mul_right sz hq
              rw [Nat.add_mul] at this; omega
            rcases hrun hE h2 hb hm with ⟨rfl, hr⟩ | ⟨he, hr⟩
            · refine ⟨_, hr, gen _ _ (by omega) ?_⟩
              by_cases hc : cap = l
              · exact .inl ⟨by omega, by omega⟩
              · rw [if_neg hc]
                exact .inr ⟨b, s, h1, by simp [Addr.add_plain], hsz _ (by omega)⟩
            · refine ⟨_, hr, gen _ _ (Nat.le_refl _) ?_⟩
              by_cases hc : hh = l
              · exact .inl ⟨by omega, by omega⟩
              · rw [if_neg hc]
                exact .inr ⟨b, s, h1, by simp [Addr.add_plain], hsz _ (by omega)⟩
          | slvE =>
            have hl0 : hh = 0 := by omega
            have hl1 : l = 0 := by omega
            rcases hrun hE (Nat.le_refl 0) hb hm with ⟨rfl, hr⟩ | ⟨he, hr⟩
            · exact ⟨_, hr, gen _ _ (by omega) (.inl ⟨by omega, by omega⟩)⟩
            · exact ⟨_, hr, gen _ _ (by omega) (.inl ⟨by omega, by omega⟩)⟩
        · cases hk
      · cases hk
    · cases hk
  · cases hk

end
end Go.Bm
