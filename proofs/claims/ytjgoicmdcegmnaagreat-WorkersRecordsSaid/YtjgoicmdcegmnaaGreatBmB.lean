/- The machine: new blocks, loads and stores, appending, maps; what it says of an operation holds. -/
import Derived.Test.YtjgoicmdcegmnaaGreatBmA
import Derived.Laws.CopyRow
import Derived.Laws.MakeOwn
import Derived.Laws.OwnMore
import Derived.Laws.BytesString
import Derived.Lib.SliceRun

set_option linter.unusedVariables false
set_option linter.unusedSimpArgs false

/- The second abstract machine: new blocks; structs and slices that are built. -/
namespace Go.Bm
open Go

section
variable {P : Program} {o : Oper} {a : Act} {w : World} {G : Gh} {tt : Regs} {v : PV} {μ : Mem} {L : Lv}

/-- An operation runs so that what is asked holds behind it. -/
def OpK (P : Program) (o : Oper) (a : Act) (w : World) (G : Gh) (K : KA) : Prop :=
  ∃ r u w' G' v μ' L', (execOp a.eval o).run P w = .ok r w' ∧ (r = .value u ∨ (r = .skip ∧ u = undef)) ∧ RV G' w' u v ∧ Rel G' μ' L' w' ∧ Evo G w G' w' ∧ K v μ' L'

theorem Gives.opK {K : KA} (h : Gives P o a w G v) (hr : Rel G μ L w) (hK : K v μ L) : OpK P o a w G K := by
  obtain ⟨u, h1, h2⟩ := h
  exact ⟨_, u, w, G, v, μ, L, h1, .inl rfl, h2, hr, Evo.refl _ _, hK⟩

theorem fits_spec {v : PV} {n : Nat} (h : v.fits n = true) : v.flat.length = n ∧ Leaves v.flat := by
  simp only [PV.fits, Bool.and_eq_true, beq_iff_eq, List.all_eq_true] at h
  exact ⟨h.1, h.2⟩

theorem heap_alloc_old' (w : World) (o : Obj) {b : Nat} (hb : b < w.heap.size) : (w.alloc o).heap[b]? = w.heap[b]? := by
  show (w.heap.push o)[b]? = _
  rw [Array.getElem?_push, if_neg (by omega)]

theorem heap_alloc_size (w : World) (o : Obj) : (w.alloc o).heap[w.heap.size]? = some o := by
  show (w.heap.push o)[w.heap.size]? = _
  simp

theorem cell_alloc_old (w : World) (o : Obj) {b k : Nat} (hb : b < w.heap.size) : (w.alloc o).cell? ⟨b, k, none⟩ = w.cell? ⟨b, k, none⟩ := by
  simp [World.cell?, heap_alloc_old' w o hb]

theorem row_cell {b : Nat} {arr : Array Value} {el : TypeId} {fr : Nat × Nat} (hb : w.heap[b]? = some (.cells arr el fr)) (k : Nat) : w.cell? ⟨b, k, none⟩ = arr[k]? := by
  simp [World.cell?, hb]

/-- A ghost with a new block and a new number. -/
def Gh.grow (G : Gh) (w : World) (F : Nat → Prop) (own : Option Owner) (l : Option (Nat × Nat)) (t : Option (Option (Nat × Nat × Nat))) : Gh :=
  { nx := G.nx + 1, loc := fun i => if i = G.nx then l else G.loc i, tok := fun i => if i = G.nx then t else G.tok i,
    fz := fun b k => G.fz b k ∨ (b = w.heap.size ∧ F k), ow := fun b => if b = w.heap.size then own else G.ow b }

theorem Rel.growEvo (h : Rel G μ L w) (ob : Obj) (F : Nat → Prop) (own : Option Owner) (l : Option (Nat × Nat)) (t : Option (Option (Nat × Nat × Nat))) (hlt : l = none ∨ t = none := by simp) : Evo G w (G.grow w F own l t) (w.alloc ob) where
  nx := by simp [Gh.grow]
  loc := fun i y hy => by simp only [Gh.grow]; rw [if_neg (by have := h.loclt hy; omega)]; exact hy
  locn := fun i hi hy => by simp only [Gh.grow]; rw [if_neg (by omega)]; exact hy
  tok := fun i y hy => by simp only [Gh.grow]; rw [if_neg (by have := h.toklt hy; omega)]; exact hy
  fz := fun _ _ hf => .inl hf
  cells := fun b k hf => cell_alloc_old w ob (h.fzlt b k hf)
  old := fun b hb ho => ⟨heap_alloc_old' w ob hb, by simp only [Gh.grow]; rw [if_neg (by omega)]; exact ho⟩
  size := by simp
  os := rfl
  tape := rfl
  output := rfl
  fzn := fun b o hb _ hf => hf.resolve_right (fun q => by omega)
  tokn := fun i hi hy => by simp only [Gh.grow]; rw [if_neg (by omega)]; exact hy
  dj := fun hd i => by
    simp only [Gh.grow]
    by_cases e : i = G.nx
    · simp only [if_pos e]; exact hlt
    · simp only [if_neg e]; exact hd i

theorem grow_fz (h : Rel G μ L w) {F : Nat → Prop} {own l t} {k : Nat} : (G.grow w F own l t).fz w.heap.size k ↔ F k := by
  constructor
  · intro hk
    rcases hk with hk | ⟨_, hk⟩
    · have := h.fzlt _ _ hk; omega
    · exact hk
  · intro hk; exact .inr ⟨rfl, hk⟩

theorem grow_loc {F : Nat → Prop} {own l t} : (G.grow w F own l t).loc G.nx = l := by simp [Gh.grow]
theorem grow_tok {F : Nat → Prop} {own l t} : (G.grow w F own l t).tok G.nx = t := by simp [Gh.grow]
theorem grow_ow {F : Nat → Prop} {own l t} : (G.grow w F own l t).ow w.heap.size = own := by simp [Gh.grow]

theorem Rel.grow (h : Rel G μ L w) {ob : Obj} {F : Nat → Prop} {own : Option Owner} {l : Option (Nat × Nat)} {t : Option (Option (Nat × Nat × Nat))} {μ' : Mem} {L' : Lv}
    (ho : ∀ i o, μ' i = some o → μ i = some o ∨ (i = G.nx ∧ ObjR (G.grow w F own l t) (w.alloc ob) i o)) (ht : ∀ i, L' i → L i ∨ (i = G.nx ∧ LiveR (G.grow w F own l t) (w.alloc ob) i)) (hlt : l = none ∨ t = none := by simp) :
    Rel (G.grow w F own l t) μ' L' (w.alloc ob) := by
  have hkeep : ∀ b x, G.ow b = some x → (w.alloc ob).heap[b]? = w.heap[b]? ∧ (G.grow w F own l t).ow b = some x ∧ ∀ k, (G.grow w F own l t).fz b k → G.fz b k := by
    intro b x hx
    have hb := h.owlt b (by rw [hx]; simp)
    refine ⟨heap_alloc_old' w ob hb, by simp only [Gh.grow]; rw [if_neg (by omega)]; exact hx, ?_⟩
    intro k hk
    rcases hk with hk | ⟨e, _⟩
    · exact hk
    · omega
  refine h.carry (h.growEvo ob F own l t hlt) ?_ ?_ ?_ ?_ ?_
  · intro i o hi
    rcases ho i o hi with h1 | ⟨_, h1⟩
    · exact .inl ⟨h1, fun b s _ hx => hkeep b _ hx⟩
    · exact .inr h1
  · intro i hi
    rcases ht i hi with h1 | ⟨_, h1⟩
    · exact .inl ⟨h1, fun b p x _ hx => ⟨(hkeep b _ hx).1, (hkeep b _ hx).2.1, fun k _ hk => (hkeep b _ hx).2.2 k hk⟩⟩
    · exact .inr h1
  · intro b k hk
    rcases hk with hk | ⟨e, _⟩
    · have := h.fzlt b k hk; simp; omega
    · simp; omega
  · intro b hb
    simp only [Gh.grow] at hb
    split at hb
    · simp; omega
    · have := h.owlt b hb; simp; omega
  · intro i hi
    have hi' : G.nx + 1 ≤ i := hi
    obtain ⟨q1, q2, q3, q4⟩ := h.nx i (by omega)
    refine ⟨by simp only [Gh.grow]; rw [if_neg (by omega)]; exact q1, by simp only [Gh.grow]; rw [if_neg (by omega)]; exact q2, ?_, ?_⟩
    · cases hm : μ' i with
      | none => rfl
      | some o =>
        rcases ho i o hm with h1 | ⟨e, _⟩
        · rw [q3] at h1; cases h1
        · omega
    · intro hl
      rcases ht i hl with h1 | ⟨e, _⟩
      · exact q4 h1
      · omega

/-- A new object. -/
theorem Rel.newObj (h : Rel G μ L w) {arr : Array Value} {t : TypeId} {cs : List PV} (hsz : cs.length ≤ arr.size) (hl : Leaves cs) (hp : Pts G w arr cs) {μ0 : Mem} (h0 : ∀ i o, μ0 i = some o → μ i = some o) :
    ∃ G', Rel G' (μ0.set G.nx (.cells cs)) L (w.alloc (.cells arr t)) ∧ Evo G w G' (w.alloc (.cells arr t)) ∧ G'.loc G.nx = some (w.heap.size, arr.size) := by
  have hev := h.growEvo (.cells arr t) (fun _ => False) (some (.obj G.nx)) (some (w.heap.size, arr.size)) none
  refine ⟨_, h.grow (F := fun _ => False) (own := some (.obj G.nx)) (l := some (w.heap.size, arr.size)) (t := none) ?_ (fun i hi => .inl hi), hev, grow_loc⟩
  intro i ob hi
  simp only [Mem.set] at hi
  split at hi
  · rename_i e
    subst e
    cases hi
    refine .inr ⟨rfl, .inr ⟨w.heap.size, arr, t, grow_loc, heap_alloc_size w _, hsz, grow_ow, fun k hk => (grow_fz h).1 hk, hl, hp.evo hev⟩⟩
  · exact .inl (h0 i ob hi)

theorem RV.cells {v : Value} {x : PV} (h : RV G w v x) (hl : Leaves x.flat) : v.cells.size = x.flat.length ∧ ∀ (k : Nat) u y, v.cells[k]? = some u → x.flat[k]? = some y → RV G w u y := by
  cases h with
  | agg h1 h2 h3 => exact ⟨h1, h3⟩
  | junk => have := hl _ (List.mem_singleton.2 rfl); simp [PV.leaf] at this
  | tup h1 h2 => have := hl _ (List.mem_singleton.2 rfl); simp [PV.leaf] at this
  | _ =>
    refine ⟨rfl, fun k u y hu hy => ?_⟩
    cases k with
    | zero => simp [Value.cells, PV.flat] at hu hy; subst hu; subst hy; constructor <;> assumption
    | succ k => simp [Value.cells] at hu


theorem zeroOf_spec {t : TypeId} {z : List PV} (hz : zeroOf P t = some z) : ∃ i v, P.info? t = some i ∧ i.zero = some v ∧ v.cells.size = z.length ∧ Leaves z ∧ ∀ (G : Gh) (w : World) (k : Nat) u y, v.cells[k]? = some u → z[k]? = some y → RV G w u y := by
  unfold zeroOf at hz
  split at hz
  · rename_i z' i h1 h2
    split at hz
    · rename_i v h3
      split at hz
      · rename_i h4
        cases hz
        refine ⟨i, v, h2, h3, ?_, ?_, ?_⟩
        · have := (constsOk_RV (G := ⟨0, fun _ => none, fun _ => none, fun _ _ => False, fun _ => none⟩) (w := default) h4).1; simpa using this
        · exact (constsOk_RV (G := ⟨0, fun _ => none, fun _ => none, fun _ _ => False, fun _ => none⟩) (w := default) h4).2.1
        · intro G w k u y hu hy
          exact (constsOk_RV (G := G) (w := w) h4).2.2 k u y (by simpa using hu) hy
      · cases hz
    · cases hz
  · cases hz

theorem run_zeroValue {t : TypeId} {i : TypeInfo} {v : Value} (h1 : P.info? t = some i) (h2 : i.zero = some v) : (zeroValue t).run P w = .ok v w := by
  simp [zeroValue, typeInfo, h1, h2]

theorem op_alloc {t : TypeId} {z : List PV} {K : KA} (ho : o.op = .alloc t) (hz : zeroOf P t = some z) (h : Rel G μ L w) (hk : opM (.alloc z) tt μ L K) : OpK P o a w G K := by
  obtain ⟨i, v, h1, h2, h3, h4, h5⟩ := zeroOf_spec hz
  have hrun : (execOp a.eval o).run P w = .ok (.value (.pointer (some ⟨w.heap.size, 0, none⟩))) (w.alloc (.cells v.cells t)) := by
    simp [execOp, ho, Instr.alloc, run_zeroValue h1 h2, newVar, newRow]
  obtain ⟨G', g1, g2, g3⟩ := h.newObj (t := t) (arr := v.cells) (by omega) h4 (h5 G w) (μ0 := μ) (fun _ _ h => h)
  exact ⟨_, _, _, G', _, _, _, hrun, .inl rfl, .ptr 0 g3, g1, g2, hk _ h.fresh⟩

theorem op_box {t : TypeId} {n : Nat} {x : Operand} {x' : AX} {K : KA} (ho : o.op = .box t x) (hx : ax P t x = some x') (hf : FR G w tt a.tmps) (h : Rel G μ L w)
    (hk : opM (.box n x') tt μ L K) : OpK P o a w G K := by
  obtain ⟨k1, k2⟩ := hk
  obtain ⟨f1, f2⟩ := fits_spec k1
  obtain ⟨c1, c2⟩ := (hf.opd hx).cells f2
  have hrun : (execOp a.eval o).run P w = .ok (.value (.pointer (some ⟨w.heap.size, 0, none⟩))) (w.alloc (.cells (a.eval x).cells t)) := by
    simp [execOp, ho, Instr.box, newVar, newRow]
  obtain ⟨G', g1, g2, g3⟩ := h.newObj (t := t) (arr := (a.eval x).cells) (cs := (rd tt x').flat) (by omega) f2 c2 (μ0 := μ) (fun _ _ h => h)
  exact ⟨_, _, _, G', _, _, _, hrun, .inl rfl, .ptr 0 g3, g1, g2, k2 _ h.fresh⟩

theorem run_mapM_list {α β : Type} {f : α → Sem β} {g : α → β} : ∀ (l : List α), (∀ x ∈ l, (f x).run P w = .ok (g x) w) → (l.mapM f).run P w = .ok (l.map g) w
  | [], _ => by simp
  | x :: l, h => by
    rw [List.mapM_cons]
    simp [h x (by simp), run_mapM_list l (fun y hy => h y (by simp [hy]))]

theorem run_mapM {α β : Type} {f : α → Sem β} {g : α → β} (l : Array α) (h : ∀ x ∈ l.toList, (f x).run P w = .ok (g x) w) : (l.mapM f).run P w = .ok (l.map g) w := by
  rw [Array.mapM_eq_mapM_toList]
  simp only [Sem.run_map, run_mapM_list l.toList h, Result.andThen_ok]
  congr 1
  apply Array.ext'
  simp

/-- Cells laid over others. -/
theorem fold_set : ∀ (l : List Value) (n off : Nat) (cs : Array Value) (k : Nat), ((l.zipIdx n).foldl (fun (cs : Array Value) (c : Value × Nat) => cs.setIfInBounds (off + c.2) c.1) cs)[k]? =
    if off + n ≤ k ∧ k < off + n + l.length ∧ k < cs.size then l[k - (off + n)]? else cs[k]?
  | [], n, off, cs, k => by
    have : ¬ (off + n ≤ k ∧ k < off + n + 0 ∧ k < cs.size) := by omega
    simp only [List.zipIdx_nil, List.foldl_nil, List.length_nil]
    rw [if_neg this]
  | x :: l, n, off, cs, k => by
    simp only [List.zipIdx_cons, List.foldl_cons]
    rw [fold_set l (n + 1) off]
    simp only [Array.size_setIfInBounds, List.length_cons]
    by_cases h1 : off + n ≤ k ∧ k < off + n + (l.length + 1) ∧ k < cs.size
    · rw [if_pos h1]
      by_cases h2 : k = off + n
      · subst h2
        rw [if_neg (by omega), getElem?_setIfInBounds', if_pos ⟨rfl, h1.2.2⟩]
        simp
      · rw [if_pos (by omega)]
        have : k - (off + n) = (k - (off + (n + 1))) + 1 := by omega
        rw [this, List.getElem?_cons_succ]
    · rw [if_neg h1, if_neg (by omega), getElem?_setIfInBounds', if_neg (by omega)]

theorem fold_set_size : ∀ (l : List (Value × Nat)) (off : Nat) (cs : Array Value), (l.foldl (fun (cs : Array Value) (c : Value × Nat) => cs.setIfInBounds (off + c.2) c.1) cs).size = cs.size
  | [], _, _ => rfl
  | x :: l, off, cs => by simp only [List.foldl_cons]; rw [fold_set_size l off]; simp

theorem Leaves.splice {cs vs : List PV} (h1 : Leaves cs) (h2 : Leaves vs) {i j : Nat} : Leaves (cs.take i ++ vs ++ cs.drop j) := by
  intro y hy
  simp only [List.append_assoc, List.mem_append] at hy
  rcases hy with hy | hy | hy
  · exact h1 y (List.mem_of_mem_take hy)
  · exact h2 y hy
  · exact h1 y (List.mem_of_mem_drop hy)

theorem splice_get {cs vs : List PV} {off : Nat} (hle : off + vs.length ≤ cs.length) (k : Nat) : (cs.take off ++ vs ++ cs.drop (off + vs.length))[k]? =
    if off ≤ k ∧ k < off + vs.length then vs[k - off]? else cs[k]? := by
  rw [List.append_assoc]
  by_cases h1 : k < off
  · rw [List.getElem?_append_left (by simp; omega), List.getElem?_take, if_pos h1, if_neg (by omega)]
  · rw [List.getElem?_append_right (by simp; omega)]
    have e : k - (cs.take off).length = k - off := by simp; omega
    rw [e]
    by_cases h2 : k < off + vs.length
    · rw [List.getElem?_append_left (by omega), if_pos ⟨by omega, h2⟩]
    · rw [List.getElem?_append_right (by omega), List.getElem?_drop, if_neg (by omega)]
      congr 1; omega

theorem run_fill : ∀ (parts : List (Nat × Operand)) (ps : List (Nat × Nat × AX)) (place : Nat → Option (Nat × Nat)) (cells : Array Value) (cs cs' : List PV), FR G w tt a.tmps →
    (List.length parts = ps.length ∧ ∀ (k : Nat) i x off n y, parts[k]? = some (i, x) → ps[k]? = some (off, n, y) → place i = some (off, n) ∧ ∃ t, ax P t x = some y) →
    PtsE G w cells cs → Leaves cs → fillParts tt cs ps = some cs' → ∃ cells', Instr.fill place cells (parts.map fun (i, x) => (i, a.eval x)) = some cells' ∧ PtsE G w cells' cs' ∧ Leaves cs'
  | [], ps, place, cells, cs, cs', h, hp, hc, hl, hf => by
    have : ps = [] := List.eq_nil_of_length_eq_zero hp.1.symm
    subst this
    simp [fillParts] at hf; subst hf
    exact ⟨cells, rfl, hc, hl⟩
  | (i, x) :: parts, ps, place, cells, cs, cs', h, hp, hc, hl, hf => by
    cases ps with
    | nil => have := hp.1; simp at this
    | cons p ps =>
      obtain ⟨off, n, y⟩ := p
      obtain ⟨hpl, t, hx⟩ := hp.2 0 i x off n y (by simp) (by simp)
      simp only [fillParts] at hf
      split at hf
      · rename_i hc'
        obtain ⟨f1, f2⟩ := fits_spec hc'.1
        have hrv := h.opd hx
        generalize rd tt y = v at hc' f1 f2 hf hrv
        obtain ⟨c1, c2⟩ := hrv.cells f2
        have hsz : cells.size = cs.length := hc.1
        have hn : (a.eval x).cells.size = n := by omega
        subst f1
        have hnew : PtsE G w ((a.eval x).cells.zipIdx.foldl (fun cs (c, j) => cs.setIfInBounds (off + j) c) cells) (cs.take off ++ v.flat ++ cs.drop (off + v.flat.length)) := by
          have e1 : ((a.eval x).cells.zipIdx.foldl (fun cs (c, j) => cs.setIfInBounds (off + j) c) cells) = ((a.eval x).cells.toList.zipIdx.foldl (fun (cs : Array Value) (c : Value × Nat) => cs.setIfInBounds (off + c.2) c.1) cells) := by
            rw [← Array.foldl_toList, Array.toList_zipIdx]
          rw [e1]
          refine ⟨?_, ?_⟩
          · rw [fold_set_size]; simp; omega
          · intro k u z hu hz
            rw [fold_set] at hu
            rw [splice_get hc'.2] at hz
            simp only [Nat.add_zero, Array.length_toList] at hu
            by_cases hk : off ≤ k ∧ k < off + v.flat.length
            · rw [if_pos hk] at hz
              rw [if_pos (by omega)] at hu
              exact c2 (k - off) u z (by simpa using hu) hz
            · rw [if_neg hk] at hz
              rw [if_neg (by omega)] at hu
              exact hc.2 k u z hu hz
        obtain ⟨cells', g1, g2, g3⟩ := run_fill parts ps place _ _ cs' h ⟨by have := hp.1; simpa using this, fun k i' x' off' n' y' h1 h2 => hp.2 (k + 1) i' x' off' n' y' (by simpa using h1) (by simpa using h2)⟩ hnew (Leaves.splice hl f2) hf
        refine ⟨cells', ?_, g2, g3⟩
        simp only [List.map_cons, Instr.fill, hpl]
        have hcond : (decide ((a.eval x).cells.size ≠ v.flat.length) || decide (off + (a.eval x).cells.size > cells.size)) = false := by
          simp only [Bool.or_eq_false_iff, decide_eq_false_iff_not]; omega
        simp only [hcond]
        exact g1
      · cases hf

theorem zeroPVs_info : ∀ (n : Nat) {t : TypeId} {z : List PV}, zeroPVs P n t = some z → ∃ i, P.info? t = some i
  | 0, t, z, h => by simp [zeroPVs] at h
  | n + 1, t, z, h => by
    cases hi : P.info? t with
    | some i => exact ⟨i, rfl⟩
    | none =>
      simp only [zeroPVs] at h
      have : P.underlying t = none := by simp [Program.underlying, hi]
      rw [this] at h
      cases h

theorem zero_fields {n : Nat} {t : TypeId} {fs : Array Field} {z : List PV} (hu : P.underlying t = some (.struct fs)) (h : zeroPVs P (n + 1) t = some z) : ∀ f ∈ fs.toList, ∃ i, P.info? f.type = some i := by
  simp only [zeroPVs, hu] at h
  have : ∀ (l : List Field) (z : List PV), l.foldr (fun f r => match zeroPVs P n f.type, r with | some a, some b => some (a ++ b) | _, _ => none) (some []) = some z → ∀ f ∈ l, ∃ i, P.info? f.type = some i := by
    intro l
    induction l with
    | nil => intro z _ f hf; simp at hf
    | cons f l ih =>
      intro z hz g hg
      simp only [List.foldr_cons] at hz
      split at hz
      · rename_i p q h1 h2
        rcases List.mem_cons.1 hg with rfl | hg
        · exact zeroPVs_info n h1
        · exact ih q h2 g hg
      · cases hz
  exact this fs.toList z h

theorem zeroOf_pvs {t : TypeId} {z : List PV} (hz : zeroOf P t = some z) : zeroPVs P 12 t = some z := by
  unfold zeroOf at hz
  split at hz
  · rename_i h1 h2
    split at hz
    · split at hz
      · cases hz; exact h1
      · cases hz
    · cases hz
  · cases hz

theorem partsT_spec {fs : Array Field} : ∀ {parts : List (Nat × Operand)} {ps : List (Nat × Nat × AX)}, partsT P fs parts = some ps → parts.length = ps.length ∧
    ∀ (k : Nat) i x off n y, parts[k]? = some (i, x) → ps[k]? = some (off, n, y) → (∃ f, fs[i]? = some f ∧ f.offset = off ∧ sizeT P f.type = some n) ∧ ∃ t, ax P t x = some y
  | [], ps, h => by simp [partsT] at h; subst h; simp
  | (i, x) :: parts, ps, h => by
    simp only [partsT] at h
    split at h
    · rename_i f hf
      split at h
      · rename_i n' a' b' h1 h2 h3
        cases h
        obtain ⟨g1, g2⟩ := partsT_spec h3
        refine ⟨by simp [g1], ?_⟩
        intro k i' x' off n y hk hp
        cases k with
        | zero =>
          simp at hk hp
          obtain ⟨rfl, rfl⟩ := hk
          obtain ⟨rfl, rfl, rfl⟩ := hp
          exact ⟨⟨f, hf, rfl, h1⟩, _, h2⟩
        | succ k => simp at hk hp; exact g2 k i' x' off n y hk hp
      · cases h
    · cases h

theorem partsA_spec {e : TypeId} {n : Nat} : ∀ {parts : List (Nat × Operand)} {ps : List (Nat × Nat × AX)}, partsA P e n parts = some ps → parts.length = ps.length ∧
    ∀ (k : Nat) i x off m y, parts[k]? = some (i, x) → ps[k]? = some (off, m, y) → (off = i * n ∧ m = n) ∧ ∃ t, ax P t x = some y
  | [], ps, h => by simp [partsA] at h; subst h; simp
  | (i, x) :: parts, ps, h => by
    simp only [partsA] at h
    split at h
    · rename_i a' b' h1 h2
      cases h
      obtain ⟨g1, g2⟩ := partsA_spec h2
      refine ⟨by simp [g1], ?_⟩
      intro k i' x' off m y hk hp
      cases k with
      | zero =>
        simp at hk hp
        obtain ⟨rfl, rfl⟩ := hk
        obtain ⟨rfl, rfl, rfl⟩ := hp
        exact ⟨⟨rfl, rfl⟩, _, h1⟩
      | succ k => simp at hk hp; exact g2 k i' x' off m y hk hp
    · cases h

theorem partsS_spec {e : TypeId} : ∀ {parts : List (Nat × Operand)} {ps : List (Nat × AX)}, partsS P e parts = some ps → parts.length = ps.length ∧
    ∀ (k : Nat) i x i' y, parts[k]? = some (i, x) → ps[k]? = some (i', y) → i' = i ∧ ∃ t, ax P t x = some y
  | [], ps, h => by simp [partsS] at h; subst h; simp
  | (i, x) :: parts, ps, h => by
    simp only [partsS] at h
    split at h
    · rename_i a' b' h1 h2
      cases h
      obtain ⟨g1, g2⟩ := partsS_spec h2
      refine ⟨by simp [g1], ?_⟩
      intro k i' x' j y hk hp
      cases k with
      | zero =>
        simp at hk hp
        obtain ⟨rfl, rfl⟩ := hk
        obtain ⟨rfl, rfl⟩ := hp
        exact ⟨rfl, _, h1⟩
      | succ k => simp at hk hp; exact g2 k i' x' j y hk hp
    · cases h

theorem op_build {t : TypeId} {parts : Array (Nat × Operand)} {ps : List (Nat × Nat × AX)} {z : List PV} {fs : Array Field} (ho : o.op = .build t parts) (hu : P.underlying t = some (.struct fs)) (hz : zeroOf P t = some z) (hp : partsT P fs parts.toList = some ps)
    (h : FR G w tt a.tmps) (hk : kernP (.build z ps) tt = some v) : Gives P o a w G v := by
  obtain ⟨i, v, z1, z2, z3, z4, z5⟩ := zeroOf_spec hz
  simp only [kernP, Option.map_eq_some_iff] at hk
  obtain ⟨cs, hf, rfl⟩ := hk
  obtain ⟨g1, g2⟩ := partsT_spec hp
  have hm : (fs.mapM (m := Sem) fun f => do pure (f.offset, ← sizeOf f.type)).run P w = .ok (fs.map fun f => (f.offset, ((P.info? f.type).map (·.size)).getD 0)) w := by
    apply run_mapM
    intro f hf
    obtain ⟨i', hi'⟩ := zero_fields hu (zeroOf_pvs hz) f hf
    simp [sizeOf, typeInfo, hi']
  obtain ⟨cells', c1, c2, c3⟩ := run_fill parts.toList ps (fun i => (fs.map fun f => (f.offset, ((P.info? f.type).map (·.size)).getD 0))[i]?) v.cells z cs h ⟨g1, by
    intro k i x off n y hk hp'
    obtain ⟨⟨f, f1, f2, f3⟩, t', ht'⟩ := g2 k i x off n y hk hp'
    refine ⟨?_, t', ht'⟩
    unfold sizeT at f3
    simp [f1, f2, f3]⟩ ⟨z3, z5 G w⟩ z4 hf
  refine ⟨.agg cells', ?_, .agg c2.1 c3 c2.2⟩
  have c1' : Instr.fill (fun i => (fs.map fun f => (f.offset, ((P.info? f.type).map (·.size)).getD 0))[i]?) v.cells (parts.map fun x => (x.1, a.eval x.2)).toList = some cells' := by
    rw [Array.toList_map]; exact c1
  simp only [execOp, ho, Instr.build, Sem.run_bind, run_zeroValue z1 z2, Result.andThen_ok, run_underlying hu, hm]
  rw [c1']
  rfl

theorem op_buildA {t el : TypeId} {len n : Nat} {parts : Array (Nat × Operand)} {ps : List (Nat × Nat × AX)} {z : List PV} (ho : o.op = .build t parts) (hu : P.underlying t = some (.array len el)) (hz : zeroOf P t = some z) (hn : sizeT P el = some n) (hp : partsA P el n parts.toList = some ps)
    (h : FR G w tt a.tmps) (hk : kernP (.build z ps) tt = some v) : Gives P o a w G v := by
  obtain ⟨i, v, z1, z2, z3, z4, z5⟩ := zeroOf_spec hz
  simp only [kernP, Option.map_eq_some_iff] at hk
  obtain ⟨cs, hf, rfl⟩ := hk
  obtain ⟨g1, g2⟩ := partsA_spec hp
  obtain ⟨cells', c1, c2, c3⟩ := run_fill parts.toList ps (fun i => some (i * n, n)) v.cells z cs h ⟨g1, by
    intro k i x off m y hk hp'
    obtain ⟨⟨f1, f2⟩, t', ht'⟩ := g2 k i x off m y hk hp'
    exact ⟨by rw [f1, f2], t', ht'⟩⟩ ⟨z3, z5 G w⟩ z4 hf
  refine ⟨.agg cells', ?_, .agg c2.1 c3 c2.2⟩
  have c1' : Instr.fill (fun i => some (i * n, n)) v.cells (parts.map fun x => (x.1, a.eval x.2)).toList = some cells' := by
    rw [Array.toList_map]; exact c1
  simp only [execOp, ho, Instr.build, Sem.run_bind, run_zeroValue z1 z2, Result.andThen_ok, run_underlying hu, run_sizeOf hn]
  rw [c1']
  rfl

theorem flats_length {sz : Nat} : ∀ {xs : List PV}, (∀ x ∈ xs, x.flat.length = sz) → (flats xs).length = xs.length * sz
  | [], _ => by simp [flats]
  | x :: xs, h => by
    have := flats_length (fun y hy => h y (List.mem_cons_of_mem _ hy))
    simp only [flats, List.flatMap_cons, List.length_append, List.length_cons] at this ⊢
    rw [this, h x (by simp), Nat.add_mul]; omega

theorem flats_get {sz : Nat} : ∀ {xs : List PV}, (∀ x ∈ xs, x.flat.length = sz) → ∀ {i off : Nat} {x y : PV}, xs[i]? = some x → x.flat[off]? = some y → (flats xs)[i * sz + off]? = some y
  | [], _, i, off, x, y, h1, _ => by simp at h1
  | x0 :: xs, h, i, off, x, y, h1, h2 => by
    simp only [flats, List.flatMap_cons]
    have h0 := h x0 (by simp)
    cases i with
    | zero =>
      simp at h1; subst h1
      rw [Nat.zero_mul, Nat.zero_add, List.getElem?_append_left (List.getElem?_eq_some_iff.1 h2).1]; exact h2
    | succ i =>
      simp at h1
      have := flats_get (fun y hy => h y (List.mem_cons_of_mem _ hy)) h1 h2
      rw [List.getElem?_append_right (by rw [h0, Nat.add_mul]; omega), h0]
      have e : (i + 1) * sz + off - sz = i * sz + off := by rw [Nat.add_mul]; omega
      rw [e]; exact this

theorem flats_set {sz : Nat} : ∀ {xs : List PV}, (∀ x ∈ xs, x.flat.length = sz) → ∀ {i : Nat} {v : PV}, i < xs.length → flats (xs.set i v) = (flats xs).take (i * sz) ++ v.flat ++ (flats xs).drop (i * sz + sz)
  | [], _, i, v, h => by simp at h
  | x0 :: xs, h, i, v, hi => by
    have h0 := h x0 (by simp)
    cases i with
    | zero => 
      simp only [List.set_cons_zero, flats, List.flatMap_cons, Nat.zero_mul, List.take_zero, List.nil_append, Nat.zero_add]
      rw [List.drop_append_of_le_length (by omega), ← h0, List.drop_length]; simp
    | succ i =>
      have := flats_set (fun y hy => h y (List.mem_cons_of_mem _ hy)) (i := i) (v := v) (by simpa using hi)
      simp only [List.set_cons_succ, flats, List.flatMap_cons] at this ⊢
      rw [this]
      have e1 : (i + 1) * sz = x0.flat.length + i * sz := by rw [h0, Nat.add_mul]; omega
      rw [e1, List.take_length_add_append, Nat.add_assoc, List.drop_length_add_append]
      simp only [List.append_assoc]

theorem fill_flats {sz : Nat} : ∀ {parts : List (Nat × AX)} {xs xs' : List PV}, (∀ x ∈ xs, x.flat.length = sz ∧ Leaves x.flat) → fillElems tt sz xs parts = some xs' →
    fillParts tt (flats xs) (parts.map fun p => (p.1 * sz, sz, p.2)) = some (flats xs') ∧ xs'.length = xs.length ∧ ∀ x ∈ xs', x.flat.length = sz ∧ Leaves x.flat
  | [], xs, xs', hx, h => by simp [fillElems] at h; subst h; exact ⟨rfl, rfl, hx⟩
  | (i, x) :: parts, xs, xs', hx, h => by
    simp only [fillElems] at h
    split at h
    · rename_i hc
      obtain ⟨f1, f2⟩ := fits_spec hc.1
      have hx' : ∀ y ∈ xs.set i (rd tt x), y.flat.length = sz ∧ Leaves y.flat := by
        intro y hy
        rcases List.mem_or_eq_of_mem_set hy with h1 | h1
        · exact hx y h1
        · subst h1; exact ⟨f1, f2⟩
      obtain ⟨g1, g2, g3⟩ := fill_flats hx' h
      refine ⟨?_, by simpa using g2, g3⟩
      have hlen := flats_length (fun y hy => (hx y hy).1)
      have hle : i * sz + sz ≤ (flats xs).length := by
        rw [hlen]
        have := Nat.mul_le_mul_right sz (show i + 1 ≤ xs.length from hc.2)
        rw [Nat.add_mul] at this; omega
      simp only [List.map_cons, fillParts]
      rw [if_pos ⟨hc.1, hle⟩, ← flats_set (fun y hy => (hx y hy).1) hc.2]
      exact g1
    · cases h

theorem elemZero_flat {g : Bool} {z : List PV} (hz : Leaves z) (h : g = false → z.length = 1) : (elemZero g z).flat = z := by
  unfold elemZero
  split
  · rfl
  · rename_i hg
    have := h (by simpa using hg)
    match z, this with
    | [y], _ =>
      have := hz y (by simp)
      cases y <;> simp_all [PV.flat, PV.leaf]

theorem aggOf_one {t : TypeId} {g : Option Nat} {n : Nat} (h : aggOf P t = some g) (hn : sizeT P t = some n) : g.isSome = false → n = 1 := by
  intro hg
  unfold aggOf at h
  unfold sizeT at hn
  split at h
  · cases h; simp at hg
  · cases h; simp at hg
  · rename_i i hi
    split at h
    · rename_i h1; simp [hi] at hn; omega
    · cases h
  · cases h

theorem replicate_flats_get {n sz k : Nat} {x : PV} (h : x.flat.length = sz) (h0 : 0 < sz) (hk : k < n * sz) : (flats (List.replicate n x))[k]? = x.flat[k % sz]? := by
  have h1 : k / sz < n := by rw [Nat.div_lt_iff_lt_mul h0]; exact hk
  have h2 : k % sz < sz := Nat.mod_lt _ h0
  have h3 : x.flat[k % sz]? = some (x.flat[k % sz]'(by omega)) := by simp [h, h2]
  have := flats_get (sz := sz) (xs := List.replicate n x) (fun y hy => by rw [List.eq_of_mem_replicate hy]; exact h) (i := k / sz) (x := x) (by simp [h1]) h3
  rw [h3, ← this]
  congr 1
  rw [Nat.mul_comm]; exact (Nat.div_add_mod k sz).symm

/-- A box that is frozen at once. -/
theorem op_fbox {t : TypeId} {n : Nat} {x : Operand} {x' : AX} {K : KA} (ho : o.op = .box t x) (hx : ax P t x = some x') (hf : FR G w tt a.tmps) (hr : Rel G μ L w)
    (hk : kernP (.fbox n x') tt = some v) (hK : K v μ L) : OpK P o a w G K := by
  simp only [kernP] at hk
  split at hk
  · rename_i k1
    cases hk
    obtain ⟨f1, f2⟩ := fits_spec k1
    obtain ⟨c1, c2⟩ := (hf.opd hx).cells f2
    have hrun : (execOp a.eval o).run P w = .ok (.value (.pointer (some ⟨w.heap.size, 0, none⟩))) (w.alloc (.cells (a.eval x).cells t)) := by
      simp [execOp, ho, Instr.box, newVar, newRow]
    have hev := hr.growEvo (.cells (a.eval x).cells t) (fun _ => True) none none none
    refine ⟨_, _, _, _, _, μ, L, hrun, .inl rfl, ?_, hr.grow (F := fun _ => True) (own := none) (l := none) (t := none) (fun i o hi => .inl hi) (fun i hi => .inl hi), hev, hK⟩
    refine .fpp f2 (fun k hk => ?_) (fun k y u hy hu => ?_)
    · refine ⟨(grow_fz hr).2 trivial, ?_⟩
      rw [row_cell (heap_alloc_size w _), Nat.zero_add]
      have : k < (a.eval x).cells.size := by omega
      simp [this]
    · rw [row_cell (heap_alloc_size w _), Nat.zero_add] at hu
      exact (c2 k u y hu hy).evo hev
  · cases hk

/-- A slice of a block whose first cells are frozen. -/
theorem RV.of_cells {b sz cap : Nat} {xs : List PV} {arr : Array Value} {el : TypeId} {t : Tok} (hb : w.heap[b]? = some (.cells arr el (0, 0))) (hx : ∀ x ∈ xs, x.flat.length = sz ∧ Leaves x.flat) (hc : xs.length ≤ cap) (hsz : (flats xs).length ≤ arr.size)
    (ht : TokR G t xs.length cap (some (b, xs.length * sz, cap * sz))) (hf : ∀ k, k < xs.length * sz → G.fz b k) (hp : Pts G w arr (flats xs)) : RV G w (.slice (some ⟨b, 0, none⟩) xs.length cap) (.sl t sz xs) := by
  have hlen := flats_length (fun y hy => (hx y hy).1)
  have hlt : ∀ i off, i < xs.length → off < sz → i * sz + off < xs.length * sz := by
    intro i off hi ho
    have := Nat.mul_le_mul_right sz (show i + 1 ≤ xs.length from hi)
    rw [Nat.add_mul] at this; omega
  refine .sl hc (by simpa using ht) (fun x hx' => (hx x hx').1) (fun x hx' => (hx x hx').2) ?_ ?_
  · intro i off hi ho
    have := hlt i off hi ho
    refine ⟨by rw [Nat.zero_add]; exact hf _ this, ?_⟩
    rw [row_cell hb, Nat.zero_add]
    have : i * sz + off < arr.size := by omega
    simp [this]
  · intro i off x y u hi hy hu
    rw [row_cell hb, Nat.zero_add] at hu
    exact hp _ u y hu (flats_get (fun y hy => (hx y hy).1) hi hy)

theorem op_bslice {t el : TypeId} {len sz : Nat} {parts : Array (Nat × Operand)} {ps : List (Nat × AX)} {z : List PV} {g : Option Nat} {K : KA} (ho : o.op = .buildSlice t len parts) (ht : P.underlying t = some (.slice el)) (hg : aggOf P el = some g) (hn : sizeT P el = some sz)
    (hz : zeroOf P el = some z) (hp : partsS P el parts.toList = some ps) (h0 : 0 < sz) (hlen : len * sz ≤ 16777216) (hzl : z.length = sz)
    (h : FR G w tt a.tmps) (hr : Rel G μ L w) (hk : kernP (.bslice g.isSome sz z len ps) tt = some v) (hK : K v μ L) : OpK P o a w G K := by
  obtain ⟨i, v, z1, z2, z3, z4, z5⟩ := zeroOf_spec hz
  simp only [kernP, Option.map_eq_some_iff] at hk
  obtain ⟨xs, hf, rfl⟩ := hk
  have hez : (elemZero g.isSome z).flat = z := elemZero_flat z4 (fun hg' => by rw [hzl]; exact aggOf_one hg hn hg')
  obtain ⟨f1, f2, f3⟩ := fill_flats (fun x hx => by rw [List.eq_of_mem_replicate hx, hez]; exact ⟨hzl, z4⟩) hf
  obtain ⟨g1, g2⟩ := partsS_spec hp
  have hfl : (flats (List.replicate len (elemZero g.isSome z))).length = len * sz := by
    rw [flats_length (sz := sz) (fun x hx => by rw [List.eq_of_mem_replicate hx, hez]; exact hzl)]; simp
  have hl0 : Leaves (flats (List.replicate len (elemZero g.isSome z))) := by
    intro y hy
    simp only [flats, List.mem_flatMap] at hy
    obtain ⟨x, hx, hy⟩ := hy
    rw [List.eq_of_mem_replicate hx, hez] at hy
    exact z4 y hy
  obtain ⟨Z, hZ⟩ : ∃ Z : Array Value, Z = if len * sz = 0 then #[] else v.cells := ⟨_, rfl⟩
  have hp0 : PtsE G w ((Array.range (len * sz)).map (fun k => Z[k % Z.size]!)) (flats (List.replicate len (elemZero g.isSome z))) := by
    refine ⟨by simp [hfl], ?_⟩
    intro k u y hu hy
    have hk : k < len * sz := by rw [← hfl]; exact (List.getElem?_eq_some_iff.1 hy).1
    rw [replicate_flats_get (by rw [hez]; exact hzl) h0 hk, hez] at hy
    have hne : ¬ len * sz = 0 := by omega
    have hm : k % sz < v.cells.size := by rw [z3, hzl]; exact Nat.mod_lt _ h0
    rw [if_neg hne] at hZ; subst hZ
    simp only [Array.getElem?_map] at hu
    have hr : (Array.range (len * sz))[k]? = some k := by simp [hk]
    rw [hr] at hu
    simp only [Option.map_some, Option.some.injEq] at hu
    rw [z3, hzl] at hu
    subst hu
    refine z5 G w (k % sz) _ y ?_ hy
    rw [getElem!_pos v.cells (k % sz) hm]; simp [hm]
  obtain ⟨cells', c1, c2, c3⟩ := run_fill parts.toList (ps.map fun p => (p.1 * sz, sz, p.2)) (fun i => some (i * sz, sz)) _ _ (flats xs) h ⟨by simpa using g1, by
    intro k i x off n y hk' hp'
    simp only [List.getElem?_map, Option.map_eq_some_iff] at hp'
    obtain ⟨⟨i', y'⟩, q1, q2⟩ := hp'
    obtain ⟨rfl, t', ht'⟩ := g2 k i x i' y' hk' q1
    cases q2
    exact ⟨rfl, t', ht'⟩⟩ hp0 hl0 f1
  have hxl : xs.length = len := by simpa using f2
  have c1' : Instr.fill (fun i => some (i * sz, sz)) ((Array.range (len * sz)).map (fun k => Z[k % Z.size]!)) (parts.map fun x => (x.1, a.eval x.2)).toList = some cells' := by
    rw [Array.toList_map]; exact c1
  have hrun : (execOp a.eval o).run P w = .ok (.value (.slice (some ⟨w.heap.size, 0, none⟩) xs.length xs.length)) (w.alloc (.cells cells' el)) := by
    rw [hxl]
    have hres : ¬ len * sz > 2 ^ 24 := by omega
    simp only [execOp, ho, Instr.buildSlice, Sem.run_bind, run_underlying ht, Result.andThen_ok, run_sizeOf hn, hres, if_false]
    by_cases h00 : len * sz = 0
    · rw [if_pos h00] at hZ; subst hZ
      simp only [h00, if_true, Sem.run_bind, Sem.run_pure, Result.andThen_ok] at c1' ⊢
      rw [c1']
      simp [newRow]
    · rw [if_neg h00] at hZ; subst hZ
      simp only [h00, if_false, Sem.run_bind, Sem.run_pure, Result.andThen_ok, run_zeroValue z1 z2] at c1' ⊢
      rw [c1']
      simp [newRow]
  have hev := hr.growEvo (.cells cells' el) (fun _ => True) none none none
  refine ⟨_, _, _, _, _, μ, L, hrun, .inl rfl, ?_, hr.grow (F := fun _ => True) (own := none) (l := none) (t := none) (fun i o hi => .inl hi) (fun i hi => .inl hi), hev, hK⟩
  exact RV.of_cells (heap_alloc_size w _) f3 (Nat.le_refl _) (by rw [c2.1]; exact Nat.le_refl _) rfl (fun k _ => (grow_fz hr).2 trivial) (Pts.evo c2.2 hev)

end
end Go.Bm

/- The second abstract machine: reading and writing. -/
namespace Go.Bm
open Go

section
variable {P : Program} {o : Oper} {a : Act} {w : World} {G : Gh} {tt : Regs} {v : PV} {μ : Mem} {L : Lv}

theorem run_load_one {t : TypeId} (hg : aggOf P t = some none) {b off : Nat} {u : Value} (hc : w.cell? ⟨b, off, none⟩ = some u) : (Instr.loadAt t (.pointer (some ⟨b, off, none⟩))).run P w = .ok u w := by
  simp [Instr.loadAt, Instr.sureAddr, loadVar, run_isAgg' hg, hc]

def cellsAt (w : World) (b off n : Nat) : Array Value := ((List.range n).map fun k => (w.cell? ⟨b, off + k, none⟩).getD undef).toArray

theorem cellsAt_get {b off n k : Nat} : (cellsAt w b off n)[k]? = if k < n then some ((w.cell? ⟨b, off + k, none⟩).getD undef) else none := by
  simp only [cellsAt, List.getElem?_toArray, List.getElem?_map]
  by_cases h : k < n
  · simp [h]
  · simp [h, List.getElem?_eq_none]

theorem cellsAt_size {b off n : Nat} : (cellsAt w b off n).size = n := by simp [cellsAt]

theorem run_load_agg {t : TypeId} {n : Nat} (hg : aggOf P t = some (some n)) {b off : Nat} (hc : ∀ k, k < n → (w.cell? ⟨b, off + k, none⟩).isSome = true) :
    (Instr.loadAt t (.pointer (some ⟨b, off, none⟩))).run P w = .ok (.agg (cellsAt w b off n)) w := by
  have := run_loadCells (P := P) w ⟨b, off, none⟩ n (fun k => (w.cell? ⟨b, off + k, none⟩).getD undef) (fun j hj => by
    rw [Addr.add_plain]
    obtain ⟨u, hu⟩ := Option.isSome_iff_exists.1 (hc j hj)
    simp [hu])
  simp [Instr.loadAt, Instr.sureAddr, loadVar, run_isAgg' hg, run_sizeOf (sizeT_agg hg), this, cellsAt]

/-- The value of some cells that are values. -/
theorem agg_of_cells {b off n : Nat} {vs : List PV} (hn : vs.length = n) (h : ∀ k y, vs[k]? = some y → ∃ u, w.cell? ⟨b, off + k, none⟩ = some u ∧ y.leaf = true ∧ RV G w u y) : RV G w (.agg (cellsAt w b off n)) (.agg vs) := by
  refine .agg (by rw [cellsAt_size, hn]) ?_ ?_
  · intro y hy
    obtain ⟨k, hk⟩ := List.getElem?_of_mem hy
    obtain ⟨u, _, hl, _⟩ := h k y hk
    exact hl
  · intro k u y hu hy
    rw [cellsAt_get] at hu
    split at hu
    · obtain ⟨u', h1, _, h3⟩ := h k y hy
      rw [h1] at hu
      cases hu
      exact h3
    · cases hu

/-- Reading cells that are known. -/
theorem run_loadV {t : TypeId} {g : Option Nat} (hg : aggOf P t = some g) {b o0 off : Nat} {cs : List PV} (hc : ∀ (k : Nat) y, cs[k]? = some y → ∃ u, w.cell? ⟨b, o0 + k, none⟩ = some u ∧ y.leaf = true ∧ RV G w u y)
    {v : PV} (hv : partV g cs off = some v) : ∃ u, (Instr.loadAt t (.pointer (some ⟨b, o0 + off, none⟩))).run P w = .ok u w ∧ RV G w u v := by
  unfold partV at hv
  cases g with
  | none =>
    simp only at hv
    obtain ⟨u, h1, h2, h3⟩ := hc off v hv
    exact ⟨u, run_load_one hg h1, h3⟩
  | some n =>
    simp only at hv
    split at hv
    · rename_i hle
      cases hv
      have hc' : ∀ (k : Nat) y, ((cs.drop off).take n)[k]? = some y → ∃ u, w.cell? ⟨b, o0 + off + k, none⟩ = some u ∧ y.leaf = true ∧ RV G w u y := by
        intro k y hy
        rw [List.getElem?_take] at hy
        split at hy
        · rw [List.getElem?_drop] at hy
          have := hc _ y hy
          rw [← Nat.add_assoc] at this; exact this
        · cases hy
      have hlen : ((cs.drop off).take n).length = n := by simp; omega
      refine ⟨_, run_load_agg hg ?_, agg_of_cells hlen hc'⟩
      intro k hk
      obtain ⟨u, h1, _⟩ := hc' k _ (List.getElem?_eq_getElem (by omega))
      simp [h1]
    · cases hv

theorem Rel.cellsAt (h : Rel G μ L w) {i : Nat} {cs : List PV} (hi : μ i = some (.cells cs)) {b s : Nat} (hb : G.loc i = some (b, s)) : ∀ (k : Nat) y, cs[k]? = some y → ∃ u, w.cell? ⟨b, k, none⟩ = some u ∧ y.leaf = true ∧ RV G w u y := by
  intro k y hy
  have ho := h.obj i _ hi
  rcases ho with ⟨rfl, _⟩ | ⟨b', arr, e, q1, q2, q3, q4, q5, q6, q7⟩
  · simp at hy
  · rw [hb] at q1
    simp only [Option.some.injEq, Prod.mk.injEq] at q1
    obtain ⟨rfl, rfl⟩ := q1
    have hlt : k < arr.size := by have := (List.getElem?_eq_some_iff.1 hy).1; omega
    exact ⟨arr[k], by rw [row_cell q2]; simp [hlt], q6 y (List.mem_of_getElem? hy), q7 k _ y (by simp [hlt]) hy⟩

theorem op_load {t : TypeId} {x : Operand} {x' : AX} {g : Option Nat} {K : KA} (ho : o.op = .load t x) (hg : aggOf P t = some g) (hx : ax0 P x = some x') (hf : FR G w tt a.tmps) (h : Rel G μ L w)
    (hk : opM (.load g x') tt μ L K) : OpK P o a w G K := by
  have e1 := hf.opd hx
  have hrun : ∀ b off u, a.eval x = .pointer (some ⟨b, off, none⟩) → (Instr.loadAt t (.pointer (some ⟨b, off, none⟩))).run P w = .ok u w → (execOp a.eval o).run P w = .ok (.value u) w := by
    intro b off u h1 h2
    simp [execOp, ho, h1, h2]
  simp only [opM] at hk
  split at hk
  · rename_i i off hs
    rw [hs] at e1
    obtain ⟨cs, v, k1, k2, k3⟩ := hk
    generalize hE : a.eval x = vx at e1
    cases e1 with
    | @ptr _ b s _ hb =>
      obtain ⟨u, h1, h2⟩ := run_loadV (P := P) hg (o0 := 0) (by simpa using h.cellsAt k1 hb) k2
      rw [Nat.zero_add] at h1
      exact ⟨_, u, w, G, v, μ, L, hrun _ _ _ hE h1, .inl rfl, h2, h, Evo.refl _ _, k3⟩
  · rename_i cs hs
    rw [hs] at e1
    obtain ⟨v, k2, k3⟩ := hk
    generalize hE : a.eval x = vx at e1
    cases e1 with
    | @fpp _ b o0 h0 h1 h2 =>
      obtain ⟨u, q1, q2⟩ := run_loadV (P := P) hg (o0 := o0) (G := G) (b := b) (cs := cs) (fun k y hy => by
        have hlt := (List.getElem?_eq_some_iff.1 hy).1
        obtain ⟨u, hu⟩ := Option.isSome_iff_exists.1 (h1 k hlt).2
        exact ⟨u, hu, h0 y (List.mem_of_getElem? hy), h2 k y u hy hu⟩) k2
      exact ⟨_, u, w, G, v, μ, L, hrun _ _ _ hE q1, .inl rfl, q2, h, Evo.refl _ _, k3⟩
  · exact hk.elim

theorem splice_arr {arr : Array Value} {off : Nat} {vs : List Value} (hle : off + vs.length ≤ arr.size) :
    ((arr.toList.take off ++ vs ++ arr.toList.drop (off + vs.length)).toArray).size = arr.size ∧
    ∀ k : Nat, (arr.toList.take off ++ vs ++ arr.toList.drop (off + vs.length)).toArray[k]? = if off ≤ k ∧ k < off + vs.length then vs[k - off]? else arr[k]? := by
  refine ⟨by simp; omega, fun k => ?_⟩
  rw [List.getElem?_toArray, List.append_assoc]
  have hl : (arr.toList.take off).length = off := by simp; omega
  by_cases h1 : k < off
  · rw [List.getElem?_append_left (by omega), List.getElem?_take, if_pos h1, if_neg (by omega), Array.getElem?_toList]
  · rw [List.getElem?_append_right (by omega), hl]
    by_cases h2 : k < off + vs.length
    · rw [List.getElem?_append_left (by omega), if_pos ⟨by omega, h2⟩]
    · rw [List.getElem?_append_right (by omega), List.getElem?_drop, if_neg (by omega), Array.getElem?_toList]
      congr 1; omega

/-- Writing runs. -/
theorem run_storeAt {t : TypeId} {n b off : Nat} {v : Value} {arr : Array Value} {el : TypeId} (hn : sizeT P t = some n) (hb : w.heap[b]? = some (.cells arr el (0, 0))) (hv : v.cells.size = n) (h1 : ∀ u ∈ v.cells.toList, u.oneCell' = true) (hle : off + n ≤ arr.size) :
    (Instr.storeAt t (.pointer (some ⟨b, off, none⟩)) v).run P w = .ok () (w.setRow b (arr.toList.take off ++ v.cells.toList ++ arr.toList.drop (off + v.cells.toList.length)).toArray) := by
  have hst := run_storeCells_at (P := P) b off el v.cells.toList 0 arr w hb (by simp; omega) h1
  simp only [Nat.add_zero] at hst
  simp [Instr.storeAt, Instr.sureAddr, storeVar, run_sizeOf hn, hv, hst]

theorem RV.oneCell {v : Value} {x : PV} (h : RV G w v x) (hl : x.leaf = true) : v.oneCell' = true := by
  cases h <;> first | rfl | simp [PV.leaf] at hl

/-- An object's block is written. -/
theorem Rel.objWrite (h : Rel G μ L w) {i b : Nat} {cs' : List PV} {arr arr' : Array Value} {el : TypeId} (hb : w.heap[b]? = some (.cells arr el (0, 0))) (hloc : G.loc i = some (b, arr.size)) (hown : G.ow b = some (.obj i)) (hfz : ∀ k, ¬ G.fz b k)
    (hsz : arr'.size = arr.size) (hle : cs'.length ≤ arr'.size) (hl : Leaves cs') (hp : Pts G w arr' cs') : Rel G (μ.set i (.cells cs')) L (w.setRow b arr') ∧ Evo G w G (w.setRow b arr') := by
  have h1 : ∀ b', b' ≠ b → (w.setRow b arr').heap[b']? = w.heap[b']? := fun b' hne => setRow_other w b b' arr' hne
  have hev : Evo G w G (w.setRow b arr') := by
    refine ⟨Nat.le_refl _, fun _ _ h => h, fun _ _ h => h, fun _ _ h => h, fun _ _ h => h, ?_, ?_, by rw [size_setRow]; exact Nat.le_refl _, rfl, rfl, rfl, fun _ _ _ _ h => h, fun _ _ h => h, fun h => h⟩
    · intro b' k hk
      have hne : b' ≠ b := fun e => hfz k (e ▸ hk)
      simp [World.cell?, h1 b' hne]
    · intro b' _ ho
      exact ⟨h1 b' (fun e => by subst e; rw [hown] at ho; cases ho), ho⟩
  refine ⟨h.carry hev ?_ ?_ (fun b' k hk => by rw [size_setRow]; exact h.fzlt b' k hk) (fun b' hb' => by rw [size_setRow]; exact h.owlt b' hb') ?_, hev⟩
  · intro j ob hj
    simp only [Mem.set] at hj
    split at hj
    · rename_i e
      subst e; cases hj
      exact .inr (.inr ⟨b, arr', el, by rw [hsz]; exact hloc, setRow_heap w b arr arr' el (0, 0) hb, hle, hown, hfz, hl, hp.evo hev⟩)
    · rename_i hne
      exact .inl ⟨hj, fun b' s _ ho' => ⟨h1 b' (fun e => by subst e; rw [hown] at ho'; cases ho'; exact hne rfl), ho', fun _ h => h⟩⟩
  · intro j hj
    exact .inl ⟨hj, fun b' p x _ ho' => ⟨h1 b' (fun e => by subst e; rw [hown] at ho'; cases ho'), ho', fun _ _ h => h⟩⟩
  · intro j hj
    obtain ⟨q1, q2, q3, q4⟩ := h.nx j hj
    refine ⟨q1, q2, ?_, q4⟩
    simp only [Mem.set]
    rw [if_neg (by have := h.loclt hloc; omega)]
    exact q3

theorem op_store {t : TypeId} {n : Nat} {x y : Operand} {x' y' : AX} {K : KA} (ho : o.op = .store t x y) (hn : sizeT P t = some n) (hx : ax0 P x = some x') (hy : ax P t y = some y') (hf : FR G w tt a.tmps) (h : Rel G μ L w)
    (hk : opM (.store n x' y') tt μ L K) : OpK P o a w G K := by
  obtain ⟨kf, hk⟩ := hk
  obtain ⟨f1, f2⟩ := fits_spec kf
  have hrv := hf.opd hy
  generalize rd tt y' = v at kf f1 f2 hrv hk
  obtain ⟨c1, c2⟩ := hrv.cells f2
  have hvn : (a.eval y).cells.size = n := by omega
  have hgetc : ∀ (k : Nat) u, (a.eval y).cells.toList[k]? = some u → ∃ z, v.flat[k]? = some z ∧ z.leaf = true ∧ RV G w u z := by
    intro k u hu
    have hlt : k < v.flat.length := by have := (List.getElem?_eq_some_iff.1 hu).1; simp at this; omega
    refine ⟨_, List.getElem?_eq_getElem hlt, f2 _ (List.getElem_mem hlt), c2 k u _ (by simpa using hu) (List.getElem?_eq_getElem hlt)⟩
  have hone : ∀ u ∈ (a.eval y).cells.toList, u.oneCell' = true := by
    intro u hu
    obtain ⟨k, hk⟩ := List.getElem?_of_mem hu
    obtain ⟨z, _, z2, z3⟩ := hgetc k u hk
    exact z3.oneCell z2
  have hlen : (a.eval y).cells.toList.length = n := by simpa using hvn
  have e1 := hf.opd hx
  split at hk
  · rename_i i off hs
    rw [hs] at e1
    obtain ⟨cs, k1, k2, k3⟩ := hk
    generalize hE : a.eval x = vx at e1
    cases e1 with
    | @ptr _ b s _ hb =>
      have hob := h.obj i _ k1
      by_cases hn0 : n = 0
      · -- nothing is written
        subst hn0
        have hc0 : (a.eval y).cells = #[] := Array.eq_empty_of_size_eq_zero hvn
        have hv0 : v.flat = [] := List.eq_nil_of_length_eq_zero f1
        have hcs : μ.set i (.cells (cs.take off ++ v.flat ++ cs.drop (off + 0))) = μ := by
          funext j
          simp only [Mem.set, hv0, List.append_nil, Nat.add_zero, List.take_append_drop]
          split
          · rename_i e; rw [e, k1]
          · rfl
        rw [hcs] at k3
        refine ⟨.skip, undef, w, G, _, μ, L, ?_, .inr ⟨rfl, rfl⟩, .tup rfl (by simp), h, Evo.refl _ _, k3⟩
        simp [execOp, ho, hE, Instr.storeAt, Instr.sureAddr, storeVar, run_sizeOf hn, hc0, Go.storeCells]
      rcases hob with ⟨rfl, _⟩ | ⟨b', arr, el, q1, q2, q3, q4, q5, q6, q7⟩
      · simp at k2; omega
      · have q1' := q1
        rw [hb] at q1
        simp only [Option.some.injEq, Prod.mk.injEq] at q1
        obtain ⟨rfl, rfl⟩ := q1
        obtain ⟨s1, s2⟩ := splice_arr (arr := arr) (off := off) (vs := (a.eval y).cells.toList) (by omega)
        obtain ⟨g1, g2⟩ := h.objWrite (cs' := cs.take off ++ v.flat ++ cs.drop (off + n)) (arr' := (arr.toList.take off ++ (a.eval y).cells.toList ++ arr.toList.drop (off + (a.eval y).cells.toList.length)).toArray) q2 q1' q4 q5 s1
          (by rw [s1]; simp; omega) (Leaves.splice q6 f2) (by
            intro k u z hu hz
            subst f1
            rw [s2] at hu
            rw [splice_get k2] at hz
            by_cases hkk : off ≤ k ∧ k < off + v.flat.length
            · rw [if_pos hkk] at hz
              rw [if_pos (by omega)] at hu
              exact c2 _ u z (by simpa using hu) hz
            · rw [if_neg hkk] at hz
              rw [if_neg (by omega)] at hu
              exact q7 k u z hu hz)
        refine ⟨.skip, undef, _, G, _, _, _, ?_, .inr ⟨rfl, rfl⟩, .tup rfl (by simp), g1, g2, k3⟩
        have hst := run_storeAt (P := P) (off := off) hn q2 hvn hone (by omega)
        simp [execOp, ho, hE, hst]
  · exact hk.elim

end
end Go.Bm

/- The second abstract machine: slices that are made and appended to; nil; texts of bytes. -/
namespace Go.Bm
open Go

section
variable {P : Program} {o : Oper} {a : Act} {w : World} {G : Gh} {tt : Regs} {v : PV} {μ : Mem} {L : Lv}

theorem op_mkslice {t el : TypeId} {l c : Operand} {l' c' : AX} {z : List PV} {g : Bool} {i : TypeInfo} {K : KA} (ho : o.op = .makeSlice t l c) (ht : P.underlying t = some (.slice el)) (hi : P.info? el = some i)
    (hz : zeroOf P el = some z) (hl : ax0 P l = some l') (hc : ax0 P c = some c') (h0 : 0 < i.size) (hzl : z.length = i.size)
    (hf : FR G w tt a.tmps) (h : Rel G μ L w) (hk : opM (.mkslice g i.size i.bytes z l' c') tt μ L K) : OpK P o a w G K := by
  obtain ⟨i', v, z1, z2, z3, z4, z5⟩ := zeroOf_spec hz
  rw [hi] at z1; cases z1
  simp only [opM] at hk
  split at hk
  · rename_i kl n kc k hn hk'
    have e1 := RV.int_inv (hf.opdv hl hn)
    have e2 := RV.int_inv (hf.opdv hc hk')
    obtain ⟨b1, b2, ⟨b3, b4⟩, b5⟩ := hk
    subst b2
    obtain ⟨m, rfl⟩ := Int.eq_ofNat_of_zero_le b1
    simp only [Int.toNat_natCast] at b3 b4 b5
    have b3' : ((m * i.bytes : Nat) : Int) ≤ 140737488355328 := by omega
    rw [Int.natCast_mul] at b3'
    have hr := run_make (P := P) w t el i v ht hi z2 kl kc m m b1 (Int.le_refl _) (by rw [Int.mul_comm]; omega) (by omega)
    have hrun : (execOp a.eval o).run P w = .ok (.value (.slice (some ⟨w.heap.size, 0, none⟩) m m)) (w.alloc (.cells (madeCells v.cells (m * i.size)) el)) := by
      simp only [execOp, ho, e1, e2]
      simp [hr]
    have hfl : (List.replicate m z).flatten = flats (List.replicate m (.agg z)) := by
      simp only [flats, List.flatMap, List.map_replicate, PV.flat]
    have hlen : (List.replicate m z).flatten.length = m * i.size := by simp [hzl]
    have hpts : Pts G w (madeCells v.cells (m * i.size)) (List.replicate m z).flatten := by
      intro k u y hu hy
      have hk : k < m * i.size := by rw [← hlen]; exact (List.getElem?_eq_some_iff.1 hy).1
      rw [hfl, replicate_flats_get (sz := i.size) (by simpa [PV.flat] using hzl) h0 hk] at hy
      unfold madeCells at hu
      have hr : (Array.range (m * i.size))[k]? = some k := by simp [hk]
      rw [Array.getElem?_map, hr] at hu
      simp only [Option.map_some, Option.some.injEq] at hu
      have hm' : k % i.size < v.cells.size := by rw [z3, hzl]; exact Nat.mod_lt _ h0
      have e3 : v.cells.size = i.size := by rw [z3, hzl]
      rw [e3] at hu
      subst hu
      refine z5 G w (k % i.size) _ y ?_ hy
      rw [getElem!_pos v.cells (k % i.size) hm']; simp [hm']
    have hlv : Leaves (List.replicate m z).flatten := by
      intro y hy
      simp only [List.mem_flatten] at hy
      obtain ⟨q, hq, hy⟩ := hy
      rw [List.eq_of_mem_replicate hq] at hy
      exact z4 y hy
    obtain ⟨G', g1, g2, g3⟩ := h.newObj (t := el) (arr := madeCells v.cells (m * i.size)) (cs := (List.replicate m z).flatten) (by rw [size_madeCells, hlen]; exact Nat.le_refl _) hlv hpts (μ0 := μ) (fun _ _ h => h)
    exact ⟨_, _, _, G', _, _, _, hrun, .inl rfl, .slv g3 (Nat.le_refl _) (by rw [size_madeCells, Nat.zero_add]; exact Nat.le_refl _), g1, g2, b5 _ h.fresh⟩
  · exact hk.elim

theorem op_isnils {op : BinOp} {t yt el : TypeId} {x y : Operand} {x' : AX} {neg : Bool} {K : KA} (ho : o.op = .binOp op t x y yt) (hx : ax P t x = some x') (hop : op = if neg then .neq else .eql)
    (hy : y = .const (.slice none 0 0)) (ht : P.underlying t = some (.slice el)) (hf : FR G w tt a.tmps) (h : Rel G μ L w) (hk : opM (.isnils neg x') tt μ L K) : OpK P o a w G K := by
  have hrun : ∀ b n c, a.eval x = .slice b n c → (execOp a.eval o).run P w = .ok (.value (.bool (b.isNone != neg))) w := by
    intro b n c hE
    have hc : a.eval (.const (.slice none 0 0)) = .slice none 0 0 := rfl
    subst hy
    have hB := binOp_other (t := t) (u := .slice b n c) (v := .slice none 0 0) (by simp) (by simp) (by simp) (by simp)
    have hq : (Op.equal t (.slice b n c) (.slice none 0 0)).run P w = .ok b.isNone w := Lib.run_equalIn_slice_nil w 9999 t el b n c 0 0 ht
    cases neg <;> subst hop <;> simp [execOp, ho, hE, hc, eqGuard_at_slice, hB, hq]
  have e1 := hf.opd hx
  simp only [opM] at hk
  split at hk
  · rename_i tk sz xs hs
    rw [hs] at e1
    generalize hE : a.eval x = vx at e1
    cases e1 with
    | sl g1 => exact ⟨_, _, w, G, _, μ, L, hrun _ _ _ hE, .inl rfl, .bool _, h, Evo.refl _ _, hk false (fun _ => rfl)⟩
    | slE g1 => exact ⟨_, _, w, G, _, μ, L, hrun _ _ _ hE, .inl rfl, .bool _, h, Evo.refl _ _, hk _ (fun hn => absurd rfl hn)⟩
  · rename_i i off n sz hs
    rw [hs] at e1
    generalize hE : a.eval x = vx at e1
    cases e1 with
    | slv g1 => exact ⟨_, _, w, G, _, μ, L, hrun _ _ _ hE, .inl rfl, .bool _, h, Evo.refl _ _, hk false (fun _ => rfl)⟩
    | slvE => exact ⟨_, _, w, G, _, μ, L, hrun _ _ _ hE, .inl rfl, .bool _, h, Evo.refl _ _, hk _ (fun hn => absurd rfl hn)⟩
  · exact hk.elim

theorem flats_inv {sz : Nat} : ∀ {xs : List PV}, (∀ x ∈ xs, x.flat.length = sz) → ∀ {k : Nat} {y : PV}, (flats xs)[k]? = some y → ∃ (i off : Nat) (x : PV), k = i * sz + off ∧ off < sz ∧ xs[i]? = some x ∧ x.flat[off]? = some y
  | [], _, k, y, h => by simp [flats] at h
  | x0 :: xs, h, k, y, hk => by
    have h0 := h x0 (by simp)
    simp only [flats, List.flatMap_cons] at hk
    by_cases hlt : k < x0.flat.length
    · rw [List.getElem?_append_left hlt] at hk
      exact ⟨0, k, x0, by omega, by omega, by simp, hk⟩
    · rw [List.getElem?_append_right (by omega), h0] at hk
      obtain ⟨i, off, x, e1, e2, e3, e4⟩ := flats_inv (fun y hy => h y (List.mem_cons_of_mem _ hy)) hk
      refine ⟨i + 1, off, x, ?_, e2, by simpa using e3, e4⟩
      rw [Nat.add_mul]; omega

/-- A slice's elements, as the model reads them. -/
theorem elems_run (hf : FR G w tt a.tmps) (h : Rel G μ L w) {t : TypeId} {x : Operand} {y : AX} {sz : Nat} {ys : List PV} (hx : ax P t x = some y) (he : elemsA μ (rd tt y) sz ys) :
    ∃ bx cx, ∃ news : List Value, a.eval x = .slice bx ys.length cx ∧ ys.length ≤ cx ∧ news.length = ys.length * sz ∧ (∀ w' : World, (∀ ad, w'.cell? ad = w.cell? ad) → (Builtin.firstCells sz ys.length (a.eval x)).run P w' = .ok news.toArray w') ∧
      (∀ (k : Nat) u z, news[k]? = some u → (flats ys)[k]? = some z → RV G w u z) ∧ (∀ z ∈ ys, z.flat.length = sz) ∧ Leaves (flats ys) ∧ (bx = none → ys = []) ∧
      (ys ≠ [] → ∃ b off, bx = some ⟨b, off, none⟩ ∧ ∀ k, k < ys.length * sz → w.cell? ⟨b, off + k, none⟩ = news[k]?) := by
  have e1 := hf.opd hx
  generalize hE : a.eval x = vx at e1
  have nil : ∀ (bx : Option Addr) (cx : Nat), vx = .slice bx 0 cx → ys = [] → ∃ bx cx, ∃ news : List Value, vx = .slice bx ys.length cx ∧ ys.length ≤ cx ∧ news.length = ys.length * sz ∧ (∀ w' : World, (∀ ad, w'.cell? ad = w.cell? ad) → (Builtin.firstCells sz ys.length vx).run P w' = .ok news.toArray w') ∧
      (∀ (k : Nat) u z, news[k]? = some u → (flats ys)[k]? = some z → RV G w u z) ∧ (∀ z ∈ ys, z.flat.length = sz) ∧ Leaves (flats ys) ∧ (bx = none → ys = []) ∧
      (ys ≠ [] → ∃ b off, bx = some ⟨b, off, none⟩ ∧ ∀ k, k < ys.length * sz → w.cell? ⟨b, off + k, none⟩ = news[k]?) := fun bx cx h1 h2 => by
    subst h2; subst h1
    refine ⟨bx, cx, [], rfl, Nat.zero_le _, by simp, ?_, by simp [flats], by simp, by simp [flats, Leaves], fun _ => rfl, fun hn => absurd rfl hn⟩
    intro w' _
    cases bx with
    | none => simp [Builtin.firstCells]
    | some b =>
      have := run_firstCells_some (P := P) w' sz 0 b 0 cx [] (by simp) (by simp)
      simpa using this
  have main : ∀ (b off cap : Nat), vx = .slice (some ⟨b, off, none⟩) ys.length cap → ys.length ≤ cap → (∀ z ∈ ys, z.flat.length = sz) → Leaves (flats ys) →
      (∀ k, k < ys.length * sz → (w.cell? ⟨b, off + k, none⟩).isSome = true) → (∀ k z u, (flats ys)[k]? = some z → w.cell? ⟨b, off + k, none⟩ = some u → RV G w u z) →
      ∃ bx cx, ∃ news : List Value, vx = .slice bx ys.length cx ∧ ys.length ≤ cx ∧ news.length = ys.length * sz ∧ (∀ w' : World, (∀ ad, w'.cell? ad = w.cell? ad) → (Builtin.firstCells sz ys.length vx).run P w' = .ok news.toArray w') ∧
      (∀ (k : Nat) u z, news[k]? = some u → (flats ys)[k]? = some z → RV G w u z) ∧ (∀ z ∈ ys, z.flat.length = sz) ∧ Leaves (flats ys) ∧ (bx = none → ys = []) ∧
      (ys ≠ [] → ∃ b off, bx = some ⟨b, off, none⟩ ∧ ∀ k, k < ys.length * sz → w.cell? ⟨b, off + k, none⟩ = news[k]?) := fun b off cap h1 hle h2 h3 h4 h5 => by
    subst h1
    refine ⟨some ⟨b, off, none⟩, cap, (cellsAt w b off (ys.length * sz)).toList, rfl, hle, by simp [cellsAt_size], ?_, ?_, h2, h3, fun e => by simp at e, fun _ => ⟨b, off, rfl, ?_⟩⟩
    · intro w' hw'
      refine run_firstCells_some w' sz ys.length ⟨b, off, none⟩ ys.length cap _ (by simp [cellsAt_size]) ?_
      intro j v hv
      rw [Array.getElem?_toList, cellsAt_get] at hv
      split at hv
      · rename_i hj
        rw [hw', Addr.add_plain]
        obtain ⟨u, hu⟩ := Option.isSome_iff_exists.1 (h4 j hj)
        rw [hu] at hv ⊢
        exact hv
      · cases hv
    · intro k u z hu hz
      have hk : k < ys.length * sz := by rw [← flats_length h2]; exact (List.getElem?_eq_some_iff.1 hz).1
      rw [Array.getElem?_toList, cellsAt_get, if_pos hk] at hu
      obtain ⟨u', hu'⟩ := Option.isSome_iff_exists.1 (h4 k hk)
      rw [hu'] at hu
      cases hu
      exact h5 k z _ hz hu'
    · intro k hk
      obtain ⟨u', hu'⟩ := Option.isSome_iff_exists.1 (h4 k hk)
      rw [Array.getElem?_toList, cellsAt_get, if_pos hk, hu']
      rfl
  unfold elemsA at he
  split at he
  · rename_i tk sz' xs hs
    obtain ⟨rfl, rfl⟩ := he
    rw [hs] at e1
    cases e1 with
    | sl g1 g2 g3 g4 g5 g6 =>
      rename_i b off cap
      refine main b off cap rfl g1 g3 ?_ ?_ ?_
      · intro y hy
        simp only [flats, List.mem_flatMap] at hy
        obtain ⟨q, hq, hy⟩ := hy
        exact g4 q hq y hy
      · intro k hk
        obtain ⟨i, o', x', q1, q2, q3, q4⟩ := flats_inv g3 (List.getElem?_eq_getElem (show k < (flats ys).length by rw [flats_length g3]; exact hk))
        rw [q1]
        exact (g5 i o' (List.getElem?_eq_some_iff.1 q3).1 q2).2
      · intro k z u hz hu
        obtain ⟨i, o', x', q1, q2, q3, q4⟩ := flats_inv g3 hz
        subst q1
        exact g6 i o' x' z u q3 q4 hu
    | slE g1 => exact nil _ _ rfl rfl
  · rename_i i off n sz' hs
    obtain ⟨rfl, hlen, hfl, cs, k1, k2, k3⟩ := he
    rw [hs] at e1
    cases e1 with
    | slvE => exact nil _ _ rfl (List.eq_nil_of_length_eq_zero hlen)
    | @slv _ _ _ _ b s cap g1 g2 g3 =>
      have hcs := h.cellsAt k1 g1
      subst hlen
      have hget : ∀ k z, (flats ys)[k]? = some z → cs[off + k]? = some z := by
        intro k z hz
        rw [k3, List.getElem?_take] at hz
        split at hz
        · rw [List.getElem?_drop] at hz; exact hz
        · cases hz
      refine main b off cap rfl g2 hfl ?_ ?_ ?_
      · intro y hy
        obtain ⟨k, hk⟩ := List.getElem?_of_mem hy
        obtain ⟨_, _, q, _⟩ := hcs _ y (hget k y hk)
        exact q
      · intro k hk
        have hlt : k < (flats ys).length := by rw [flats_length hfl]; exact hk
        obtain ⟨u, q, _, _⟩ := hcs _ _ (hget k _ (List.getElem?_eq_getElem hlt))
        simp [q]
      · intro k z u hz hu
        obtain ⟨u', q1, _, q2⟩ := hcs _ z (hget k z hz)
        rw [q1] at hu; cases hu; exact q2
  · exact he.elim

theorem bytesOf_fold : ∀ {ys : List PV} {bs : List UInt8}, bytesOf ys = some bs → ∃ ns : List Int, ys = ns.map (PV.int .u8) ∧ ∀ acc : ByteArray, ns.foldl (fun r n => r.push (UInt8.ofNat n.toNat)) acc = ⟨(acc.data.toList ++ bs).toArray⟩
  | [], bs, h => by simp [bytesOf] at h; subst h; exact ⟨[], rfl, fun acc => by simp⟩
  | y :: ys, bs, h => by
    cases y with
    | int k n =>
      cases k <;> simp [bytesOf] at h
      obtain ⟨bs', h1, rfl⟩ := h
      obtain ⟨ns, rfl, h3⟩ := bytesOf_fold h1
      refine ⟨n :: ns, rfl, fun acc => ?_⟩
      rw [List.foldl_cons, h3]
      simp [ByteArray.push]
    | _ => simp [bytesOf] at h

theorem op_b2s {src dst el : TypeId} {x : Operand} {x' : AX} {K : KA} (ho : o.op = .convert src dst x) (hs : P.underlying src = some (.slice el)) (he : P.underlying el = some (.int .u8)) (hd : P.underlying dst = some .string)
    (hx : ax P src x = some x') (hf : FR G w tt a.tmps) (h : Rel G μ L w) (hk : opM (.b2s x') tt μ L K) : OpK P o a w G K := by
  obtain ⟨ys, bs, k1, k2, k3⟩ := hk
  obtain ⟨bx, cx, news, e1, e2, e3, e4, e5, e6, e7, e8, e9⟩ := elems_run (P := P) hf h hx k1
  obtain ⟨ns, rfl, hfold⟩ := bytesOf_fold k2
  have hfl : flats (ns.map (PV.int .u8)) = ns.map (PV.int .u8) := by
    simp only [flats]
    clear e1 e2 e3 e4 e5 e6 e7 e8 e9 hfold k1 k2 k3
    induction ns with
    | nil => rfl
    | cons n ns ih => simp [PV.flat, ih]
  have hnews : news = ns.map (Value.int .u8) := by
    apply List.ext_getElem?
    intro k
    by_cases hk : k < ns.length
    · have hl : k < news.length := by simp at e3; omega
      have := e5 k _ (.int .u8 ns[k]) (List.getElem?_eq_getElem hl) (by rw [hfl]; simp [hk])
      rw [List.getElem?_eq_getElem hl, RV.int_inv this]
      simp [hk]
    · rw [List.getElem?_eq_none (by simp at e3; omega), List.getElem?_eq_none (by simp; omega)]
  refine ⟨_, .string ⟨bs.toArray⟩, w, G, _, μ, L, ?_, .inl rfl, .str _, h, Evo.refl _ _, k3⟩
  have hconv : (convert src dst (a.eval x)).run P w = .ok (.string ⟨bs.toArray⟩) w := by
    rw [e1, run_convert_bytes_string w src dst el bx _ cx hs he hd]
    have h0 := hfold ByteArray.empty
    cases bx with
    | none =>
      have h1 := e8 rfl
      simp at h1
      subst h1
      simp [bytesOf] at k2
      subst k2
      rfl
    | some ad =>
      have hl : (loadCells ad ns.length).run P w = .ok (ns.map (Value.int .u8)).toArray w := by
        have := run_loadCells (P := P) w ad ns.length (fun k => (w.cell? (ad.add k)).getD undef) (fun j hj => by
          have hne : ns.map (PV.int .u8) ≠ [] := by intro e; simp at e; subst e; simp at hj
          obtain ⟨b, off, q1, q2⟩ := e9 hne
          cases q1
          have := q2 j (by simpa using hj)
          rw [Addr.add_plain, this, hnews]
          simp [hj])
        rw [this]
        congr 1
        apply Array.ext'
        simp only [List.toList_toArray]
        apply List.ext_getElem?
        intro j
        by_cases hj : j < ns.length
        · have hne : ns.map (PV.int .u8) ≠ [] := by intro e; simp at e; subst e; simp at hj
          obtain ⟨b, off, q1, q2⟩ := e9 hne
          cases q1
          have := q2 j (by simpa using hj)
          simp only [List.getElem?_map]
          rw [List.getElem?_range hj]
          simp only [Option.map_some, Addr.add_plain, this, hnews]
          simp [hj]
        · rw [List.getElem?_eq_none (by simp; omega), List.getElem?_eq_none (by simp; omega)]
      have := run_bytesToString (P := P) w ad ns.length cx ns hl
      rw [h0] at this
      simpa using this
  simp [execOp, ho, hconv]

theorem run_append_in {o0 : Nat} {t u ty el el' : TypeId} {i : TypeInfo} (ht : P.underlying t = some (.slice el)) (hu : P.underlying u = some (.slice el')) (hi : P.info? el = some i)
    {g n cap : Nat} {cur : Array Value} {el0 : TypeId} (hg : w.heap[g]? = some (.cells cur el0 (0, 0))) {bx : Option Addr} {m cx : Nat} {news : List Value}
    (hf : ∀ w' : World, (∀ ad, w'.cell? ad = w.cell? ad) → (Builtin.firstCells i.size m (.slice bx m cx)).run P w' = .ok news.toArray w') (h1 : ∀ u ∈ news, u.oneCell' = true)
    (hroom : n + m ≤ cap) (hfit : o0 + n * i.size + news.length ≤ cur.size) :
    (Builtin.append_ #[t, u] ty #[.slice (some ⟨g, o0, none⟩) n cap, .slice bx m cx]).run P w =
      .ok (.slice (some ⟨g, o0, none⟩) (n + m) cap) (w.setRow g (cur.toList.take (o0 + n * i.size) ++ news ++ cur.toList.drop (o0 + n * i.size + news.length)).toArray) := by
  have hst := run_storeCells_at (P := P) g (o0 + n * i.size) el0 news 0 cur w hg (by simpa using hfit) h1
  simp only [Nat.add_zero] at hst
  simp [Builtin.append_, run_underlying ht, run_underlying hu, sizeOf, typeInfo, hi, Builtin.lenOf, hroom, hf w (fun _ => rfl), Addr.add_plain, hst]

theorem run_append_none {t u ty el el' : TypeId} {i : TypeInfo} (ht : P.underlying t = some (.slice el)) (hu : P.underlying u = some (.slice el')) (hi : P.info? el = some i)
    {ba bx : Option Addr} {n cap cx : Nat} (hn : n ≤ cap) (hf : (Builtin.firstCells i.size 0 (.slice bx 0 cx)).run P w = .ok #[] w) :
    (Builtin.append_ #[t, u] ty #[.slice ba n cap, .slice bx 0 cx]).run P w = .ok (.slice ba n cap) w := by
  cases ba <;> simp [Builtin.append_, run_underlying ht, run_underlying hu, sizeOf, typeInfo, hi, Builtin.lenOf, hn, hf, Go.storeCells]

theorem run_append_more {t u ty el el' : TypeId} {i : TypeInfo} {z : Value} (ht : P.underlying t = some (.slice el)) (hu : P.underlying u = some (.slice el')) (hi : P.info? el = some i) (hz : i.zero = some z)
    {ba bx : Option Addr} {n cap m cx : Nat} {olds news : List Value}
    (hfo : ∀ w' : World, (∀ ad, w'.cell? ad = w.cell? ad) → (Builtin.firstCells i.size n (.slice ba n cap)).run P w' = .ok olds.toArray w')
    (hf : ∀ w' : World, (∀ ad, w'.cell? ad = w.cell? ad) → (Builtin.firstCells i.size m (.slice bx m cx)).run P w' = .ok news.toArray w')
    (hg : cap < n + m) (h63 : ((n + m : Nat) : Int) ≤ 9223372036854775807) (hfit : Builtin.nextslicecap (n + m) cap * i.bytes ≤ 281474976710656) :
    (Builtin.append_ #[t, u] ty #[.slice ba n cap, .slice bx m cx]).run P w =
      .ok (.slice (some ⟨w.heap.size, 0, none⟩) (n + m) (grownCap w (n + m) cap el))
        (w.drew.alloc (.cells (olds.toArray ++ news.toArray ++ Builtin.zeroCells z.cells (grownCap w (n + m) cap el - (n + m))) el)) := by
  have hn : ¬ (n + m ≤ cap) := by omega
  have h63' : ¬ (9223372036854775807 < ((n : Int) + (m : Int))) := by omega
  have h48' : ¬ (281474976710656 < Builtin.nextslicecap (n + m) cap * i.bytes) := by omega
  have hf' := hf w.drew (fun _ => rfl)
  have hfo' := hfo w.drew (fun _ => rfl)
  simp [Builtin.append_, run_underlying ht, run_underlying hu, sizeOf, typeInfo, zeroValue, hi, hz, Builtin.lenOf, hn, h63', h48', Question.forced, hf', hfo', newRow, grownCap]
  congr 2
  apply Array.ext'
  simp [List.append_assoc]


end
end Go.Bm

/- The second abstract machine: appending. -/
namespace Go.Bm
open Go

section
variable {P : Program} {o : Oper} {a : Act} {w : World} {G : Gh} {tt : Regs} {v : PV} {μ : Mem} {L : Lv}

theorem Rel.drew (h : Rel G μ L w) : Rel G μ L w.drew ∧ Evo G w G w.drew := by
  have hev : Evo G w G w.drew := ⟨Nat.le_refl _, fun _ _ h => h, fun _ _ h => h, fun _ _ h => h, fun _ _ h => h, fun _ _ _ => rfl, fun _ _ h => ⟨rfl, h⟩, Nat.le_refl _, rfl, rfl, rfl, fun _ _ _ _ h => h, fun _ _ h => h, fun h => h⟩
  exact ⟨h.carry hev (fun i o hi => .inl ⟨hi, fun b s _ hx => ⟨rfl, hx, fun _ h => h⟩⟩) (fun i hi => .inl ⟨hi, fun b p x _ hx => ⟨rfl, hx, fun _ _ h => h⟩⟩) h.fzlt h.owlt h.nx, hev⟩

/-- A new number: perhaps a token that is the right to nothing. -/
def Gh.num (G : Gh) (t : Option (Option (Nat × Nat × Nat))) : Gh := { G with nx := G.nx + 1, tok := fun i => if i = G.nx then t else G.tok i }

theorem Rel.numEvo (h : Rel G μ L w) (t) : Evo G w (G.num t) w where
  nx := by simp [Gh.num]
  loc := fun _ _ h => h
  locn := fun _ _ h => h
  tok := fun i y hy => by simp only [Gh.num]; rw [if_neg (by have := h.toklt hy; omega)]; exact hy
  fz := fun _ _ h => h
  cells := fun _ _ _ => rfl
  old := fun _ _ h => ⟨rfl, h⟩
  size := Nat.le_refl _
  os := rfl
  tape := rfl
  output := rfl
  fzn := fun _ _ _ _ h => h
  tokn := fun i hi hy => by simp only [Gh.num]; rw [if_neg (by omega)]; exact hy
  dj := fun hd i => by
    simp only [Gh.num]
    by_cases e : i = G.nx
    · exact .inl (by rw [e]; exact (h.nx _ (Nat.le_refl _)).1)
    · simp only [if_neg e]; exact hd i

theorem Rel.num (h : Rel G μ L w) {t} {μ' : Mem} {L' : Lv} (ho : ∀ i o, μ' i = some o → μ i = some o ∨ (i = G.nx ∧ o = .cells [])) (ht : ∀ i, L' i → L i ∨ (i = G.nx ∧ t = some none)) : Rel (G.num t) μ' L' w := by
  refine h.carry (h.numEvo t) ?_ ?_ h.fzlt h.owlt ?_
  · intro i o hi
    rcases ho i o hi with h1 | ⟨rfl, rfl⟩
    · exact .inl ⟨h1, fun b s _ hx => ⟨rfl, hx, fun _ h => h⟩⟩
    · exact .inr (.inl ⟨rfl, (h.nx _ (Nat.le_refl _)).1⟩)
  · intro i hi
    rcases ht i hi with h1 | ⟨rfl, rfl⟩
    · exact .inl ⟨h1, fun b p x _ hx => ⟨rfl, hx, fun _ _ h => h⟩⟩
    · exact .inr (by simp [LiveR, Gh.num])
  · intro i hi
    have hi' : G.nx + 1 ≤ i := hi
    obtain ⟨q1, q2, q3, q4⟩ := h.nx i (by omega)
    refine ⟨q1, by simp only [Gh.num]; rw [if_neg (by omega)]; exact q2, ?_, ?_⟩
    · cases hm : μ' i with
      | none => rfl
      | some o =>
        rcases ho i o hm with h1 | ⟨e, _⟩
        · rw [q3] at h1; cases h1
        · omega
    · intro hl
      rcases ht i hl with h1 | ⟨e, _⟩
      · exact q4 h1
      · omega

theorem size_zeroCells' (z : Array Value) (n : Nat) : (Builtin.zeroCells z n).size = n * z.size := by simp [Builtin.zeroCells]

theorem pts_joined {A B : List PV} {olds news : List Value} {rest : Array Value} (h1 : olds.length = A.length) (ho : ∀ (k : Nat) u z, olds[k]? = some u → A[k]? = some z → RV G w u z)
    (hn : ∀ (k : Nat) u z, news[k]? = some u → B[k]? = some z → RV G w u z) (h2 : news.length = B.length) : Pts G w (olds.toArray ++ news.toArray ++ rest) (A ++ B) := by
  intro k u z hu hz
  rw [← Array.getElem?_toList] at hu
  simp only [Array.toList_append, List.append_assoc] at hu
  by_cases hk : k < A.length
  · rw [List.getElem?_append_left hk] at hz
    rw [List.getElem?_append_left (by omega)] at hu
    exact ho k u z hu hz
  · rw [List.getElem?_append_right (by omega)] at hz
    rw [List.getElem?_append_right (by omega), h1] at hu
    have := (List.getElem?_eq_some_iff.1 hz).1
    rw [List.getElem?_append_left (by omega)] at hu
    exact hn _ u z hu hz

theorem flats_append (xs ys : List PV) : flats (xs ++ ys) = flats xs ++ flats ys := by simp [flats]

theorem RV.retok {v : Value} {tk t' : Tok} {sz : Nat} {xs : List PV} (h : RV G w v (.sl tk sz xs)) (ht : ∀ cap at_, TokR G tk xs.length cap at_ → (at_ = none → xs = []) → TokR G t' xs.length cap at_) : RV G w v (.sl t' sz xs) := by
  cases h with
  | sl g1 g2 g3 g4 g5 g6 => exact .sl g1 (ht _ _ g2 (fun e => by cases e)) g3 g4 g5 g6
  | slE g1 => exact .slE (ht _ _ g1 (fun _ => rfl))

/-- The token's own block is written behind what is frozen, and frozen further; the right goes over. -/
theorem Rel.chain (h : Rel G μ L w) {c b p e m : Nat} {arr arr' : Array Value} {el : TypeId} (hL : L c) (ht : G.tok c = some (some (b, p, e))) (hb : w.heap[b]? = some (.cells arr el (0, 0))) (hown : G.ow b = some (.tok c)) (hpe : p + m ≤ e) (he : e ≤ arr.size)
    (hfz : ∀ k, p ≤ k → ¬ G.fz b k) (hsz : arr'.size = arr.size) (hsame : ∀ k, k < p → arr'[k]? = arr[k]?) :
    ∃ G', Rel G' μ (L.mv (.tk c) G.nx) (w.setRow b arr') ∧ Evo G w G' (w.setRow b arr') ∧ G'.tok G.nx = some (some (b, p + m, e)) ∧ ∀ k, p ≤ k → k < p + m → G'.fz b k := by
  have h1 : ∀ b', b' ≠ b → (w.setRow b arr').heap[b']? = w.heap[b']? := fun b' hne => setRow_other w b b' arr' hne
  have hb' := setRow_heap w b arr arr' el (0, 0) hb
  have hcell : ∀ b' k, G.fz b' k → (w.setRow b arr').cell? ⟨b', k, none⟩ = w.cell? ⟨b', k, none⟩ := by
    intro b' k hk
    by_cases hne : b' = b
    · subst hne
      have : k < p := by apply Nat.lt_of_not_le; intro hle; exact hfz k hle hk
      rw [row_cell hb', row_cell hb, hsame k this]
    · simp [World.cell?, h1 b' hne]
  let G' : Gh := { nx := G.nx + 1, loc := G.loc, tok := fun i => if i = G.nx then some (some (b, p + m, e)) else G.tok i, fz := fun b' k => G.fz b' k ∨ (b' = b ∧ p ≤ k ∧ k < p + m), ow := fun b' => if b' = b then some (.tok G.nx) else G.ow b' }
  have hblt : b < w.heap.size := (Array.getElem?_eq_some_iff.1 hb).1
  have hev : Evo G w G' (w.setRow b arr') := by
    refine ⟨by simp [G'], fun _ _ h => h, fun _ _ h => h, fun i y hy => ?_, fun _ _ hf => .inl hf, hcell, ?_, by rw [size_setRow]; exact Nat.le_refl _, rfl, rfl, rfl, fun b' k _ ho hf => hf.resolve_right (fun q => by rw [q.1, hown] at ho; cases ho), fun i hi hy => by simp only [G']; rw [if_neg (by omega)]; exact hy, fun hd i => ?_⟩
    · simp only [G']; rw [if_neg (by have := h.toklt hy; omega)]; exact hy
    · intro b' _ ho
      have hne : b' ≠ b := fun e => by subst e; rw [hown] at ho; cases ho
      exact ⟨h1 b' hne, by simp only [G']; rw [if_neg hne]; exact ho⟩
    · simp only [G']
      by_cases e : i = G.nx
      · exact .inl (by rw [e]; exact (h.nx _ (Nat.le_refl _)).1)
      · simp only [if_neg e]; exact hd i
  have hkeep : ∀ b' x, G.ow b' = some x → x ≠ .tok c → (w.setRow b arr').heap[b']? = w.heap[b']? ∧ G'.ow b' = some x ∧ ∀ k, G'.fz b' k → G.fz b' k := by
    intro b' x hx hne
    have hbb : b' ≠ b := fun e => by subst e; rw [hown] at hx; cases hx; exact hne rfl
    exact ⟨h1 b' hbb, by simp only [G']; rw [if_neg hbb]; exact hx, fun k hk => hk.resolve_right (fun q => hbb q.1)⟩
  refine ⟨G', h.carry hev ?_ ?_ ?_ ?_ ?_, hev, by simp [G'], fun k q1 q2 => .inr ⟨rfl, q1, q2⟩⟩
  · intro i ob hi
    exact .inl ⟨hi, fun b' s _ hx => hkeep b' _ hx (by simp)⟩
  · intro i hi
    rcases hi with rfl | ⟨hi, hne⟩
    · right
      simp only [LiveR, G', if_true]
      refine ⟨arr', el, hb', hpe, by omega, trivial, ?_⟩
      intro k hk hf
      rcases hf with hf | ⟨_, _, hf⟩
      · exact hfz k (by omega) hf
      · omega
    · left
      have hic : i ≠ c := fun e => hne (by rw [e])
      exact ⟨hi, fun b' p' x _ hx => ⟨(hkeep b' _ hx (by simpa using hic)).1, (hkeep b' _ hx (by simpa using hic)).2.1, fun k _ => (hkeep b' _ hx (by simpa using hic)).2.2 k⟩⟩
  · intro b' k hk
    rw [size_setRow]
    rcases hk with hk | ⟨rfl, _⟩
    · exact h.fzlt b' k hk
    · exact hblt
  · intro b' hb''
    rw [size_setRow]
    simp only [G'] at hb''
    split at hb''
    · rename_i e; subst e; exact hblt
    · exact h.owlt b' hb''
  · intro i hi
    have hi' : G.nx + 1 ≤ i := hi
    obtain ⟨q1, q2, q3, q4⟩ := h.nx i (by omega)
    refine ⟨q1, by simp only [G']; rw [if_neg (by omega)]; exact q2, q3, ?_⟩
    intro hl
    rcases hl with e | ⟨hl, _⟩
    · omega
    · exact q4 hl

/-- An object's block is written, and is another object's from here on. -/
theorem Rel.objMove (h : Rel G μ L w) {i b : Nat} {cs cs' : List PV} {arr arr' : Array Value} {el : TypeId} (hi : μ i = some (.cells cs)) (hloc : G.loc i = some (b, arr.size)) (hb : w.heap[b]? = some (.cells arr el (0, 0))) (hown : G.ow b = some (.obj i)) (hfz : ∀ k, ¬ G.fz b k)
    (hsz : arr'.size = arr.size) (hle : cs'.length ≤ arr'.size) (hl : Leaves cs') (hp : Pts G w arr' cs') :
    ∃ G', Rel G' ((μ.del i).set G.nx (.cells cs')) L (w.setRow b arr') ∧ Evo G w G' (w.setRow b arr') ∧ G'.loc G.nx = some (b, arr.size) := by
  have h1 : ∀ b', b' ≠ b → (w.setRow b arr').heap[b']? = w.heap[b']? := fun b' hne => setRow_other w b b' arr' hne
  have hb' := setRow_heap w b arr arr' el (0, 0) hb
  let G' : Gh := { nx := G.nx + 1, loc := fun j => if j = G.nx then some (b, arr.size) else G.loc j, tok := G.tok, fz := G.fz, ow := fun b' => if b' = b then some (.obj G.nx) else G.ow b' }
  have hblt : b < w.heap.size := (Array.getElem?_eq_some_iff.1 hb).1
  have hev : Evo G w G' (w.setRow b arr') := by
    refine ⟨by simp [G'], fun i y hy => ?_, fun i hi hy => ?_, fun _ _ h => h, fun _ _ hf => hf, ?_, ?_, by rw [size_setRow]; exact Nat.le_refl _, rfl, rfl, rfl, fun _ _ _ _ h => h, fun _ _ h => h, fun hd i => ?_⟩
    · simp only [G']; rw [if_neg (by have := h.loclt hy; omega)]; exact hy
    · simp only [G']; rw [if_neg (by omega)]; exact hy
    · intro b' k hk
      have hne : b' ≠ b := fun e => hfz k (e ▸ hk)
      simp [World.cell?, h1 b' hne]
    · intro b' _ ho
      have hne : b' ≠ b := fun e => by subst e; rw [hown] at ho; cases ho
      exact ⟨h1 b' hne, by simp only [G']; rw [if_neg hne]; exact ho⟩
    · simp only [G']
      by_cases e : i = G.nx
      · exact .inr (by rw [e]; exact (h.nx _ (Nat.le_refl _)).2.1)
      · simp only [if_neg e]; exact hd i
  have hkeep : ∀ b' x, G.ow b' = some x → x ≠ .obj i → (w.setRow b arr').heap[b']? = w.heap[b']? ∧ G'.ow b' = some x ∧ ∀ k, G'.fz b' k → G.fz b' k := by
    intro b' x hx hne
    have hbb : b' ≠ b := fun e => by subst e; rw [hown] at hx; cases hx; exact hne rfl
    exact ⟨h1 b' hbb, by simp only [G']; rw [if_neg hbb]; exact hx, fun k hk => hk⟩
  refine ⟨G', h.carry hev ?_ ?_ (fun b' k hk => by rw [size_setRow]; exact h.fzlt b' k hk) ?_ ?_, hev, by simp [G']⟩
  · intro j ob hj
    simp only [Mem.set, Mem.del] at hj
    split at hj
    · rename_i e
      subst e; cases hj
      refine .inr (.inr ⟨b, arr', el, by simp [G', hsz], hb', hle, by simp [G'], hfz, hl, hp.evo hev⟩)
    · split at hj
      · cases hj
      · rename_i hne
        exact .inl ⟨hj, fun b' s _ hx => hkeep b' _ hx (by simpa using hne)⟩
  · intro j hj
    exact .inl ⟨hj, fun b' p x _ hx => ⟨(hkeep b' _ hx (by simp)).1, (hkeep b' _ hx (by simp)).2.1, fun k _ hk => hk⟩⟩
  · intro b' hb''
    rw [size_setRow]
    simp only [G'] at hb''
    split at hb''
    · rename_i e; subst e; exact hblt
    · exact h.owlt b' hb''
  · intro j hj
    have hj' : G.nx + 1 ≤ j := hj
    obtain ⟨q1, q2, q3, q4⟩ := h.nx j (by omega)
    refine ⟨by simp only [G']; rw [if_neg (by omega)]; exact q1, q2, ?_, q4⟩
    simp only [Mem.set, Mem.del]
    rw [if_neg (by omega)]
    split
    · rfl
    · exact q3

theorem grow_cells_size {z : Value} {i : TypeInfo} (hzs : z.cells.size = i.size) {olds news : List Value} {n m g : Nat} (ho : olds.length = n * i.size) (hn : news.length = m * i.size) (hg : n + m ≤ g) :
    (olds.toArray ++ news.toArray ++ Builtin.zeroCells z.cells (g - (n + m))).size = g * i.size := by
  simp only [Array.size_append, List.size_toArray, size_zeroCells', hzs, ho, hn]
  rw [Nat.sub_mul, Nat.add_mul]
  have := Nat.mul_le_mul_right i.size hg
  rw [Nat.add_mul] at this; omega

theorem op_append {c : Call} {t u el el' : TypeId} {x y : Operand} {x' y' : AX} {i : TypeInfo} {K : KA} (ho : o.op = .call c) (hc : c.callee = .builtin .append) (hts : c.argTypes.toList = [t, u]) (hargs : c.args.toList = [x, y])
    (ht : P.underlying t = some (.slice el)) (hu : P.underlying u = some (.slice el')) (hi : P.info? el = some i) (h0 : 0 < i.size) (hzz : (i.zero.map fun v => v.cells.size) = some i.size) (hx : ax P t x = some x') (hy : ax P u y = some y')
    (hf : FR G w tt a.tmps) (h : Rel G μ L w) (hk : opM (.append i.size i.bytes x' y') tt μ L K) : OpK P o a w G K := by
  obtain ⟨z, hz, hzs⟩ : ∃ z, i.zero = some z ∧ z.cells.size = i.size := by
    simp only [Option.map_eq_some_iff] at hzz; exact hzz
  have ha : c.args = #[x, y] := by apply Array.ext'; simpa using hargs
  have hta : c.argTypes = #[t, u] := by apply Array.ext'; simpa using hts
  obtain ⟨cst, hbu⟩ := execOp_builtin (ρ := a.eval) ho hc
  have hrun : ∀ {v : Value} {w' : World}, (Builtin.append_ #[t, u] o.type #[a.eval x, a.eval y]).run P w = .ok v w' → (execOp a.eval o).run P w = .ok (.value v) w' := by
    intro v w' hr
    rw [hbu]
    simp [ha, hta, builtin, hr]
  obtain ⟨ys, hys, hk⟩ := hk
  obtain ⟨bx, cx, news, e1, e2, e3, e4, e5, e6, e7, e8, e9⟩ := elems_run (P := P) hf h hy hys
  rw [e1] at e4
  have hny : news.length = (flats ys).length := by rw [flats_length e6, e3]
  have hone : ∀ u ∈ news, u.oneCell' = true := by
    intro u hu
    obtain ⟨k, hk⟩ := List.getElem?_of_mem hu
    have hlt : k < (flats ys).length := by rw [← hny]; exact (List.getElem?_eq_some_iff.1 hk).1
    exact (e5 k u _ hk (List.getElem?_eq_getElem hlt)).oneCell (e7 _ (List.getElem_mem hlt))
  split at hk
  · rename_i tk sz' xs hs
    obtain ⟨rfl, ⟨hm1, hm2⟩, hk⟩ := hk
    obtain ⟨ba, cap, olds, f1, f2, f3, f4, f5, f6, f7, f8, f9⟩ := elems_run (P := P) hf h hx (show elemsA μ (rd tt x') i.size xs by rw [hs]; exact ⟨rfl, rfl⟩)
    have hrv := hf.opdv hx hs
    rw [f1] at f4 hrv
    have hnx : olds.length = (flats xs).length := by rw [flats_length f6, f3]
    have hall : ∀ q ∈ xs ++ ys, q.flat.length = i.size ∧ Leaves q.flat := by
      intro q hq
      have key : ∀ (l : List PV), (∀ z ∈ l, z.flat.length = i.size) → Leaves (flats l) → ∀ q ∈ l, q.flat.length = i.size ∧ Leaves q.flat := by
        intro l h1 h2 q hq
        exact ⟨h1 q hq, fun y hy => h2 y (List.mem_flatMap.2 ⟨q, hq, hy⟩)⟩
      rcases List.mem_append.1 hq with hq | hq
      · exact key xs f6 f7 q hq
      · exact key ys e6 e7 q hq
    have hlenxy : (flats (xs ++ ys)).length = (xs.length + ys.length) * i.size := by rw [flats_length (fun q hq => (hall q hq).1)]; simp
    by_cases hg : xs.length + ys.length ≤ cap
    · -- there is room
      rcases hk with ⟨htk, hk⟩ | ⟨rfl, hk1, hk⟩
      · -- nothing is appended, or behind a token's cells
        have flatCase : cap = xs.length → OpK P o a w G K := by
          intro hcap
          have hy0 : ys = [] := List.eq_nil_of_length_eq_zero (by omega)
          subst hy0
          have hn0 : news = [] := List.eq_nil_of_length_eq_zero (by simpa using e3)
          have hr := run_append_none (P := P) (w := w) (ty := o.type) (t := t) (u := u) ht hu hi (ba := ba) (bx := bx) (n := xs.length) (cap := cap) (cx := cx) f2 (by rw [hn0] at e4; exact e4 w (fun _ => rfl))
          have hK := hk G.nx h.fresh
          rw [List.append_nil] at hK
          refine ⟨_, _, w, G.num (some none), _, μ, L.mv tk G.nx, hrun (by rw [f1, e1]; exact hr), .inl rfl, ?_, h.num (fun i o hi => .inl hi) ?_, h.numEvo _, hK⟩
          · have h2 := hrv.evo (h.numEvo (some none))
            generalize hvx : Value.slice ba xs.length cap = vx at h2
            cases h2 with
            | sl g1 g2 g3 g4 g5 g6 =>
              rename_i b o' cap'
              cases hvx
              exact .sl g1 (.inl ⟨by simp [Gh.num], hcap⟩) g3 g4 g5 g6
            | slE g1 =>
              cases hvx
              exact .slE (.inl ⟨by simp [Gh.num], hcap⟩)
          · intro j hj
            rcases hj with rfl | ⟨hj, _⟩
            · exact .inr ⟨rfl, rfl⟩
            · exact .inl hj
        rcases htk with rfl | ⟨c', rfl, hL⟩
        · exact flatCase (by
            generalize hvx : Value.slice ba xs.length cap = vx at hrv
            cases hrv with
            | sl g1 g2 => cases hvx; exact g2
            | slE g1 => cases hvx; exact g1)
        · have hlive := h.tok c' hL
          unfold LiveR at hlive
          cases hq : G.tok c' with
          | none => simp [hq] at hlive
          | some info =>
            cases info with
            | none =>
              exact flatCase (by
                generalize hvx : Value.slice ba xs.length cap = vx at hrv
                cases hrv with
                | sl g1 g2 =>
                  cases hvx
                  rcases g2 with ⟨_, g2⟩ | ⟨q, _, g2⟩
                  · exact g2
                  · rw [hq] at g2; cases g2
                | slE g1 =>
                  cases hvx
                  rcases g1 with ⟨_, g1⟩ | ⟨q, q2, _⟩
                  · exact g1
                  · cases q2)
            | some info =>
              obtain ⟨b, p, e⟩ := info
              rw [hq] at hlive
              obtain ⟨arr, el0, l1, l2, l3, l4, l5⟩ := hlive
              generalize hvx : Value.slice ba xs.length cap = vx at hrv
              cases hrv with
              | slE g1 =>
                rcases g1 with ⟨g1, _⟩ | ⟨q, q2, _⟩
                · rw [hq] at g1; cases g1
                · cases q2
              | @sl _ _ _ b1 o1 cap1 g1 g2 g3 g4 g5 g6 =>
                cases hvx
                rcases g2 with ⟨g2, _⟩ | ⟨q, q2, q3⟩
                · rw [hq] at g2; cases g2
                · cases q2
                  rw [hq] at q3
                  simp only [Option.some.injEq, Prod.mk.injEq] at q3
                  obtain ⟨rfl, rfl, rfl⟩ := q3
                  have hmul : xs.length * i.size + ys.length * i.size ≤ cap * i.size := by rw [← Nat.add_mul]; exact Nat.mul_le_mul_right _ hg
                  have hfit : o1 + xs.length * i.size + news.length ≤ arr.size := by omega
                  have hr := run_append_in (P := P) (w := w) (ty := o.type) ht hu hi (o0 := o1) (n := xs.length) (cap := cap) (bx := bx) (m := ys.length) (cx := cx) (news := news) l1 e4 hone hg hfit
                  obtain ⟨s1, s2⟩ := splice_arr (arr := arr) (off := o1 + xs.length * i.size) (vs := news) hfit
                  obtain ⟨G', k1, k2, k3, k4⟩ := h.chain (m := ys.length * i.size) hL hq l1 l4 (by omega) l3 l5 s1 (fun k hk => by rw [s2, if_neg (by omega)])
                  refine ⟨_, _, _, G', _, μ, _, hrun (by rw [f1, e1]; exact hr), .inl rfl, ?_, k1, k2, hk _ h.fresh⟩
                  have hnew := setRow_heap w b arr ((arr.toList.take (o1 + xs.length * i.size) ++ news ++ arr.toList.drop (o1 + xs.length * i.size + news.length)).toArray) el0 (0, 0) l1
                  have hln : (xs ++ ys).length = xs.length + ys.length := by simp
                  -- the cells of the whole
                  have hcells : ∀ k, k < (xs.length + ys.length) * i.size → G'.fz b (o1 + k) ∧ ∃ u, (w.setRow b ((arr.toList.take (o1 + xs.length * i.size) ++ news ++ arr.toList.drop (o1 + xs.length * i.size + news.length)).toArray)).cell? ⟨b, o1 + k, none⟩ = some u ∧ ∀ y, (flats (xs ++ ys))[k]? = some y → RV G' (w.setRow b ((arr.toList.take (o1 + xs.length * i.size) ++ news ++ arr.toList.drop (o1 + xs.length * i.size + news.length)).toArray)) u y := by
                    intro k hk
                    rw [Nat.add_mul] at hk
                    by_cases hkx : k < xs.length * i.size
                    · have hlt : k < (flats xs).length := by rw [flats_length f6]; exact hkx
                      obtain ⟨j, o', x1, q1, q2, q3, q4⟩ := flats_inv f6 (List.getElem?_eq_getElem hlt)
                      obtain ⟨z1, z2⟩ := g5 j o' (List.getElem?_eq_some_iff.1 q3).1 q2
                      rw [← q1] at z1 z2
                      obtain ⟨u, hu⟩ := Option.isSome_iff_exists.1 z2
                      refine ⟨k2.fz _ _ z1, u, (k2.cells _ _ z1).trans hu, ?_⟩
                      intro y hy
                      rw [flats_append, List.getElem?_append_left hlt] at hy
                      rw [List.getElem?_eq_getElem hlt] at hy
                      cases hy
                      exact (g6 j o' x1 _ u q3 q4 (by rw [← q1]; exact hu)).evo k2
                    · have hlt : k - xs.length * i.size < news.length := by omega
                      refine ⟨k4 _ (by omega) (by omega), news[k - xs.length * i.size], ?_, ?_⟩
                      · rw [row_cell hnew, s2, if_pos (by omega), show o1 + k - (o1 + xs.length * i.size) = k - xs.length * i.size by omega]
                        exact List.getElem?_eq_getElem hlt
                      · intro y hy
                        rw [flats_append, List.getElem?_append_right (by rw [flats_length f6]; omega), flats_length f6] at hy
                        exact (e5 _ _ y (List.getElem?_eq_getElem hlt) hy).evo k2
                  have := RV.sl (G := G') (w := w.setRow b ((arr.toList.take (o1 + xs.length * i.size) ++ news ++ arr.toList.drop (o1 + xs.length * i.size + news.length)).toArray)) (t := .tk G.nx) (sz := i.size) (xs := xs ++ ys) (b := b) (o := o1) (cap := cap) (by omega)
                    (.inr ⟨_, rfl, by rw [k3, hln, Nat.add_mul]; simp [Nat.add_assoc]⟩) (fun q hq => (hall q hq).1) (fun q hq => (hall q hq).2) ?_ ?_
                  · rw [hln] at this; exact this
                  · intro j off hj hoff
                    have hlt : j * i.size + off < (xs.length + ys.length) * i.size := by
                      have := Nat.mul_le_mul_right i.size (show j + 1 ≤ xs.length + ys.length by omega)
                      rw [Nat.add_mul j] at this; omega
                    obtain ⟨z1, u, z2, _⟩ := hcells _ hlt
                    exact ⟨z1, by rw [z2]; rfl⟩
                  · intro j off q yy u hq hyy hu
                    have hoff : off < i.size := by rw [← (hall q (List.mem_of_getElem? hq)).1]; exact (List.getElem?_eq_some_iff.1 hyy).1
                    have hj := (List.getElem?_eq_some_iff.1 hq).1
                    have hlt : j * i.size + off < (xs.length + ys.length) * i.size := by
                      have := Nat.mul_le_mul_right i.size (show j + 1 ≤ xs.length + ys.length by omega)
                      rw [Nat.add_mul j] at this; omega
                    obtain ⟨z1, u', z2, z3⟩ := hcells _ hlt
                    rw [z2] at hu; cases hu
                    exact z3 yy (flats_get (fun q hq => (hall q hq).1) hq hyy)
      · -- an object, of nothing
        have hcap : cap = xs.length := by
          generalize hvx : Value.slice ba xs.length cap = vx at hrv
          cases hrv with
          | sl g1 g2 => cases hvx; exact g2
          | slE g1 => cases hvx; exact g1
        have hy0 : ys = [] := List.eq_nil_of_length_eq_zero (by omega)
        have hx0 : xs = [] := hk1.resolve_right (fun hne => hne hy0)
        subst hy0; subst hx0
        have hn0 : news = [] := List.eq_nil_of_length_eq_zero (by simpa using e3)
        have hr := run_append_none (P := P) (w := w) (ty := o.type) (t := t) (u := u) ht hu hi (ba := ba) (bx := bx) (n := 0) (cap := cap) (cx := cx) f2 (by rw [hn0] at e4; exact e4 w (fun _ => rfl))
        simp only [List.length_nil] at hcap
        subst hcap
        refine ⟨_, _, w, G.num none, _, _, L, hrun (by rw [f1, e1]; exact hr), .inl rfl, ?_, h.num (t := none) (μ' := μ.set G.nx (.cells [])) ?_ (fun i hi => .inl hi), h.numEvo _, hk G.nx h.fresh⟩
        · exact .slvE
        · intro j ob hj
          simp only [Mem.set] at hj
          split at hj
          · rename_i e; cases hj; exact .inr ⟨e, rfl⟩
          · exact .inl hj
    · -- a new block
      have hr := run_append_more (P := P) (w := w) (ty := o.type) ht hu hi hz (ba := ba) (bx := bx) (n := xs.length) (cap := cap) (m := ys.length) (cx := cx) (olds := olds) (news := news) f4 e4 (by omega) (by omega) (growslice_fits (by omega) hm1)
      have hge := grownCap_ge w (xs.length + ys.length) cap el
      obtain ⟨d1, d2⟩ := h.drew
      have hA1 := grow_cells_size (g := grownCap w (xs.length + ys.length) cap el) hzs f3 e3 hge
      have hpts : Pts G w (olds.toArray ++ news.toArray ++ Builtin.zeroCells z.cells (grownCap w (xs.length + ys.length) cap el - (xs.length + ys.length))) (flats (xs ++ ys)) := by
        rw [flats_append]; exact pts_joined hnx f5 e5 hny
      generalize olds.toArray ++ news.toArray ++ Builtin.zeroCells z.cells (grownCap w (xs.length + ys.length) cap el - (xs.length + ys.length)) = arr at hr hA1 hpts
      have hle : (flats (xs ++ ys)).length ≤ arr.size := by rw [hlenxy, hA1]; exact Nat.mul_le_mul_right _ hge
      rcases hk with ⟨htk, hk⟩ | ⟨rfl, hk1, hk⟩
      · have hev := d1.growEvo (.cells arr el) (fun k => k < (xs.length + ys.length) * i.size) (some (.tok G.nx)) none (some (some (w.heap.size, (xs.length + ys.length) * i.size, grownCap w (xs.length + ys.length) cap el * i.size)))
        refine ⟨_, _, _, _, _, μ, L.mv tk G.nx, hrun (by rw [f1, e1]; exact hr), .inl rfl, ?_, d1.grow (F := fun k => k < (xs.length + ys.length) * i.size) (own := some (.tok G.nx)) (l := none) (t := some (some (w.heap.size, (xs.length + ys.length) * i.size, grownCap w (xs.length + ys.length) cap el * i.size))) (fun j ob hj => .inl hj) ?_, d2.trans hev, hk _ h.fresh⟩
        · have := RV.of_cells (G := G.grow w.drew (fun k => k < (xs.length + ys.length) * i.size) (some (.tok G.nx)) none (some (some (w.heap.size, (xs.length + ys.length) * i.size, grownCap w (xs.length + ys.length) cap el * i.size)))) (w := w.drew.alloc (.cells arr el)) (b := w.heap.size) (sz := i.size) (cap := grownCap w (xs.length + ys.length) cap el) (xs := xs ++ ys) (arr := arr) (el := el) (t := .tk G.nx)
            (heap_alloc_size w.drew _) hall (by simp; exact hge) hle (.inr ⟨_, rfl, by rw [grow_tok]; simp⟩) (fun k hk => (grow_fz d1).2 (by simpa using hk)) ((hpts.evo d2).evo hev)
          simp only [List.length_append] at this
          exact this
        · intro j hj
          rcases hj with rfl | ⟨hj, _⟩
          · refine .inr ⟨rfl, ?_⟩
            unfold LiveR
            rw [grow_tok]
            refine ⟨arr, el, heap_alloc_size w.drew _, Nat.mul_le_mul_right _ hge, by rw [hA1]; exact Nat.le_refl _, grow_ow (w := w.drew), fun k hk hfz => ?_⟩
            have := (grow_fz d1).1 hfz
            omega
          · exact .inl hj
      · obtain ⟨G', g1, g2, g3⟩ := d1.newObj (t := el) (arr := arr) (cs := flats (xs ++ ys)) hle (by
          intro y hy
          simp only [flats, List.mem_flatMap] at hy
          obtain ⟨q, hq, hy⟩ := hy
          exact (hall q hq).2 y hy) (hpts.evo d2) (μ0 := μ) (fun _ _ h => h)
        refine ⟨_, _, _, G', _, _, _, hrun (by rw [f1, e1]; exact hr), .inl rfl, .slv g3 hge (by rw [hA1, Nat.zero_add]; exact Nat.le_refl _), g1, d2.trans g2, hk _ h.fresh⟩
  · rename_i j off n sz' hs
    obtain ⟨rfl, rfl, ⟨hm1, hm2⟩, cs, hj, hcs, hk⟩ := hk
    have hrv := hf.opdv hx hs
    have hdel : ∀ i o, (μ.del j) i = some o → μ i = some o := by
      intro q ob hq
      simp only [Mem.del] at hq
      split at hq
      · cases hq
      · exact hq
    -- what has been there
    have hob := h.obj j _ hj
    have key : ∃ ba cap, ∃ olds : List Value, a.eval x = .slice ba n cap ∧ n ≤ cap ∧ olds.length = n * i.size ∧ (∀ w' : World, (∀ ad, w'.cell? ad = w.cell? ad) → (Builtin.firstCells i.size n (.slice ba n cap)).run P w' = .ok olds.toArray w') ∧ (∀ (k : Nat) u z, olds[k]? = some u → cs[k]? = some z → RV G w u z) ∧ Leaves cs ∧
        ((n = 0 ∧ cap = 0 ∧ cs = []) ∨ ∃ b arr e, ba = some ⟨b, 0, none⟩ ∧ cap * i.size ≤ arr.size ∧ G.loc j = some (b, arr.size) ∧ w.heap[b]? = some (.cells arr e (0, 0)) ∧ G.ow b = some (.obj j) ∧ (∀ k, ¬ G.fz b k) ∧ olds = arr.toList.take (n * i.size) ∧ Pts G w arr cs) := by
      generalize hE : a.eval x = vx at hrv
      have lv : Leaves cs := by
        rcases hob with ⟨rfl, _⟩ | ⟨b, arr, e, _, _, _, _, _, q, _⟩
        · simp [Leaves]
        · exact q
      cases hrv with
      | @slvE _ _ _ ba =>
        have hc0 : cs = [] := List.eq_nil_of_length_eq_zero (by simpa using hcs)
        subst hc0
        refine ⟨ba, 0, [], rfl, Nat.le_refl _, by simp, ?_, by simp, lv, .inl ⟨rfl, rfl, rfl⟩⟩
        intro w' _
        cases ba with
        | none => simp [Builtin.firstCells]
        | some b0 =>
          have := run_firstCells_some (P := P) w' i.size 0 b0 0 0 [] (by simp) (by simp)
          simpa using this
      | @slv _ _ _ _ b s cap g1 g2 g3 =>
        rcases hob with ⟨_, q⟩ | ⟨b', arr, e, q1, q2, q3, q4, q5, q6, q7⟩
        · rw [g1] at q; cases q
        · have q1' := q1
          rw [g1] at q1
          simp only [Option.some.injEq, Prod.mk.injEq] at q1
          obtain ⟨rfl, rfl⟩ := q1
          have hle : n * i.size ≤ arr.size := by rw [← hcs]; exact q3
          refine ⟨_, cap, arr.toList.take (n * i.size), rfl, g2, by simp; omega, ?_, ?_, lv, .inr ⟨b, arr, e, rfl, by omega, q1', q2, q4, q5, rfl, q7⟩⟩
          · intro w' hw'
            refine run_firstCells_some w' i.size n ⟨b, 0, none⟩ n cap _ (by simp; omega) ?_
            intro k v hv
            rw [List.getElem?_take] at hv
            split at hv
            · rw [hw', Addr.add_plain, Nat.zero_add, row_cell q2]
              rw [Array.getElem?_toList] at hv; exact hv
            · cases hv
          · intro k u z hu hz
            rw [List.getElem?_take] at hu
            split at hu
            · rw [Array.getElem?_toList] at hu; exact q7 k u z hu hz
            · cases hu
    obtain ⟨ba, cap, olds, f1, f2, f3, f4, f5, f6, f7⟩ := key
    by_cases hg : n + ys.length ≤ cap
    · rcases f7 with ⟨rfl, rfl, rfl⟩ | ⟨b, arr, e, rfl, r1, r2, r3, r4, r5, r6, r7⟩
      · have hy0 : ys = [] := List.eq_nil_of_length_eq_zero (by omega)
        subst hy0
        have hn0 : news = [] := List.eq_nil_of_length_eq_zero (by simpa using e3)
        have hr := run_append_none (P := P) (w := w) (ty := o.type) (t := t) (u := u) ht hu hi (ba := ba) (bx := bx) (n := 0) (cap := 0) (cx := cx) (Nat.le_refl _) (by rw [hn0] at e4; exact e4 w (fun _ => rfl))
        refine ⟨_, _, w, G.num none, _, _, L, hrun (by rw [f1, e1]; exact hr), .inl rfl, ?_, h.num (t := none) (μ' := (μ.del j).set G.nx (.cells [])) ?_ (fun i hi => .inl hi), h.numEvo _, hk G.nx h.fresh⟩
        · exact .slvE
        · intro q ob hq
          simp only [Mem.set] at hq
          split at hq
          · rename_i e; cases hq; exact .inr ⟨e, rfl⟩
          · exact .inl (hdel q ob hq)
      · have hmul : n * i.size + ys.length * i.size ≤ cap * i.size := by rw [← Nat.add_mul]; exact Nat.mul_le_mul_right _ hg
        have hfit : 0 + n * i.size + news.length ≤ arr.size := by omega
        have hr := run_append_in (P := P) (w := w) (ty := o.type) ht hu hi (o0 := 0) (n := n) (cap := cap) (bx := bx) (m := ys.length) (cx := cx) (news := news) r3 e4 hone hg hfit
        obtain ⟨s1, s2⟩ := splice_arr (arr := arr) (off := 0 + n * i.size) (vs := news) hfit
        obtain ⟨G', k1, k2, k3⟩ := h.objMove (cs' := cs ++ flats ys) (arr' := (arr.toList.take (0 + n * i.size) ++ news ++ arr.toList.drop (0 + n * i.size + news.length)).toArray) hj r2 r3 r4 r5 s1 (by rw [s1]; simp [hcs, flats_length e6]; omega)
          (by
            intro y hy
            rcases List.mem_append.1 hy with hy | hy
            · exact f6 y hy
            · exact e7 y hy) (by
            intro k u z hu hz
            rw [s2] at hu
            by_cases hkk : k < cs.length
            · rw [List.getElem?_append_left hkk] at hz
              rw [if_neg (by omega)] at hu
              exact r7 k u z hu hz
            · rw [List.getElem?_append_right (by omega)] at hz
              have := (List.getElem?_eq_some_iff.1 hz).1
              rw [if_pos (by omega)] at hu
              refine e5 _ u z ?_ hz
              rw [← hu]; congr 1; omega)
        exact ⟨_, _, _, G', _, _, _, hrun (by rw [f1, e1]; exact hr), .inl rfl, .slv k3 hg (by omega), k1, k2, hk _ h.fresh⟩
    · have hr := run_append_more (P := P) (w := w) (ty := o.type) ht hu hi hz (ba := ba) (bx := bx) (n := n) (cap := cap) (m := ys.length) (cx := cx) (olds := olds) (news := news) f4 e4 (by omega) (by omega) (growslice_fits (by omega) hm1)
      have hge := grownCap_ge w (n + ys.length) cap el
      obtain ⟨d1, d2⟩ := h.drew
      have hA1 := grow_cells_size (g := grownCap w (n + ys.length) cap el) hzs f3 e3 hge
      have hpts : Pts G w (olds.toArray ++ news.toArray ++ Builtin.zeroCells z.cells (grownCap w (n + ys.length) cap el - (n + ys.length))) (cs ++ flats ys) := pts_joined (by omega) f5 e5 hny
      generalize olds.toArray ++ news.toArray ++ Builtin.zeroCells z.cells (grownCap w (n + ys.length) cap el - (n + ys.length)) = arr at hr hA1 hpts
      have hle : (cs ++ flats ys).length ≤ arr.size := by
        rw [hA1, List.length_append, hcs, flats_length e6, ← Nat.add_mul]; exact Nat.mul_le_mul_right _ hge
      obtain ⟨G', g1, g2, g3⟩ := d1.newObj (t := el) (arr := arr) (cs := cs ++ flats ys) hle (by
        intro y hy
        rcases List.mem_append.1 hy with hy | hy
        · exact f6 y hy
        · exact e7 y hy) (hpts.evo d2) (μ0 := μ.del j) hdel
      exact ⟨_, _, _, G', _, _, _, hrun (by rw [f1, e1]; exact hr), .inl rfl, .slv g3 hge (by rw [hA1, Nat.zero_add]; exact Nat.le_refl _), g1, d2.trans g2, hk _ h.fresh⟩
  · exact hk.elim

end
end Go.Bm

/- The second abstract machine: maps that are made, counted, and gone through where they are empty. -/
namespace Go.Bm
open Go

/-- A new object of any kind. -/
theorem Rel.newAny {G : Gh} {μ : Mem} {L : Lv} {w : World} (h : Rel G μ L w) (ob : Obj) (x : AObj)
    (hx : ∀ G' w', G'.loc G.nx = some (w.heap.size, 0) → w'.heap[w.heap.size]? = some ob → G'.ow w.heap.size = some (.obj G.nx) → (∀ o, ¬ G'.fz w.heap.size o) → Evo G w G' w' → ObjR G' w' G.nx x) :
    ∃ G', Rel G' (μ.set G.nx x) L (w.alloc ob) ∧ Evo G w G' (w.alloc ob) ∧ G'.loc G.nx = some (w.heap.size, 0) ∧ G'.nx = G.nx + 1 := by
  have hev := h.growEvo ob (fun _ => False) (some (.obj G.nx)) (some (w.heap.size, 0)) none
  refine ⟨_, h.grow (F := fun _ => False) (own := some (.obj G.nx)) (l := some (w.heap.size, 0)) (t := none) ?_ (fun i hi => .inl hi), hev, grow_loc, rfl⟩
  intro i o hi
  simp only [Mem.set] at hi
  split at hi
  · rename_i e
    subst e
    cases hi
    exact .inr ⟨rfl, hx _ _ grow_loc (heap_alloc_size w _) grow_ow (fun k hk => (grow_fz h).1 hk) hev⟩
  · exact .inl hi

theorem getObj_run {P : Program} {w : World} {b : Nat} {es : Array MapEntry} {cl : Nat} (h : w.heap[b]? = some (.map es cl)) : (getObj b).run P w = .ok (.map es cl) w := by
  simp [getObj, Sem.run, h]
theorem getObj_runI {P : Program} {w : World} {b : Nat} {m : Option Nat} {since : Nat} {seen : Array Nat} {last : Nat} (h : w.heap[b]? = some (.mapIter m since seen last)) : (getObj b).run P w = .ok (.mapIter m since seen last) w := by
  simp [getObj, Sem.run, h]

section
variable {P : Program} {o : Oper} {a : Act} {w : World} {G : Gh} {tt : Regs} {v : PV} {μ : Mem} {L : Lv}

theorem op_mkmap {t : TypeId} {K : KA} (ho : o.op = .makeMap t none) (h : Rel G μ L w) (hk : opM .mkmap tt μ L K) : OpK P o a w G K := by
  have hrun : (execOp a.eval o).run P w = .ok (.value (.map (some w.heap.size))) (w.alloc (.map #[] 0)) := by
    simp [execOp, ho, Instr.makeMap]
  obtain ⟨G', g1, g2, g3, g4⟩ := h.newAny (.map #[] 0) (.map []) (fun G' w' q1 q2 q3 q4 _ => ⟨_, _, _, _, q1, q2, q3, q4, rfl, fun k u y hu => by simp at hu⟩)
  exact ⟨_, _, _, G', _, _, _, hrun, .inl rfl, .mp g3, g1, g2, hk _ h.fresh⟩

theorem op_mlen {c : Call} {t k el : TypeId} {x : Operand} {x' : AX} {K : KA} (ho : o.op = .call c) (hc : c.callee = .builtin .len) (hts : c.argTypes.toList = [t]) (hargs : c.args.toList = [x])
    (ht : P.underlying t = some (.map k el)) (hx : ax P t x = some x') (h : FR G w tt a.tmps) (hR : Rel G μ L w) (hk : opM (.mlen x') tt μ L K) : OpK P o a w G K := by
  have ha : c.args = #[x] := by apply Array.ext'; simpa using hargs
  have hta : c.argTypes = #[t] := by apply Array.ext'; simpa using hts
  obtain ⟨cs, hb⟩ := execOp_builtin (ρ := a.eval) ho hc
  simp only [opM] at hk
  split at hk
  · rename_i i hs
    obtain ⟨es, h1, h2⟩ := hk
    have hv := h.opdv hx hs
    obtain ⟨b, s, ents, cl, q1, q2, q3, q4, q5, q6⟩ := hR.obj _ _ h1
    generalize hE : a.eval x = vx at hv
    cases hv with
    | mp hl =>
      rw [hl] at q1; cases q1
      have hrun : (execOp a.eval o).run P w = .ok (.value (.int .i64 es.length)) w := by
        rw [hb]
        simp [ha, hta, builtin, hE, Builtin.len_, run_underlying ht, getObj_run q2, goInt, q5]
      exact ⟨_, _, _, G, _, _, _, hrun, .inl rfl, .int _ _, hR, Evo.refl _ _, h2⟩
  · rename_i hs
    have hv := h.opdv hx hs
    generalize hE : a.eval x = vx at hv
    cases hv with
    | nilm =>
      have hrun : (execOp a.eval o).run P w = .ok (.value (.int .i64 0)) w := by
        rw [hb]
        simp [ha, hta, builtin, hE, Builtin.len_, run_underlying ht, goInt]
      exact ⟨_, _, _, G, _, _, _, hrun, .inl rfl, .int _ _, hR, Evo.refl _ _, hk⟩
  · exact hk.elim

theorem op_rangem {t k el : TypeId} {x : Operand} {x' : AX} {K : KA} (ho : o.op = .range t x) (ht : P.underlying t = some (.map k el)) (hx : ax P t x = some x') (h : FR G w tt a.tmps) (hR : Rel G μ L w) (hk : opM (.rangem x') tt μ L K) : OpK P o a w G K := by
  simp only [opM] at hk
  split at hk
  · rename_i i hs
    obtain ⟨⟨es, h1⟩, h2⟩ := hk
    have hv := h.opdv hx hs
    obtain ⟨b, s, ents, cl, q1, q2, q3, q4, q5, q6⟩ := hR.obj _ _ h1
    generalize hE : a.eval x = vx at hv
    cases hv with
    | mp hl =>
      rw [hl] at q1; cases q1
      have hrun : (execOp a.eval o).run P w = .ok (.value (.pointer (some ⟨w.heap.size, 0, none⟩))) (w.alloc (.mapIter (some b) cl #[] cl)) := by
        simp [execOp, ho, hE, Instr.range, run_underlying ht, getObj_run q2]
      obtain ⟨G', g1, g2, g3, g4⟩ := hR.newAny (.mapIter (some b) cl #[] cl) (.iter i) (fun G' w' p1 p2 p3 p4 p5 => ⟨_, _, _, _, _, _, p1, p5.loc _ _ hl, p2, p3, p4⟩)
      exact ⟨_, _, _, G', _, _, _, hrun, .inl rfl, .ptr 0 g3, g1, g2, h2 _ hR.fresh⟩
  · exact hk.elim

theorem op_nextm {x : Operand} {x' : AX} {K : KA} (ho : o.op = .next x false) (hx : ax0 P x = some x') (h : FR G w tt a.tmps) (hR : Rel G μ L w) (hk : opM (.nextm x') tt μ L K) : OpK P o a w G K := by
  simp only [opM] at hk
  split at hk
  · rename_i j off hs
    obtain ⟨rfl, i, h1, h2, h3⟩ := hk
    have hv := h.opdv hx hs
    obtain ⟨b, s, b', s', since, last, p1, p0, p2, p3, p4⟩ := hR.obj _ _ h1
    obtain ⟨b2, s2, ents, cl, q1, q2, q3, q4, q5, q6⟩ := hR.obj _ _ h2
    rw [p0] at q1; cases q1
    have he : ents = #[] := Array.eq_empty_of_size_eq_zero (by simpa using q5)
    subst he
    generalize hE : a.eval x = vx at hv
    cases hv with
    | ptr _ hl =>
      rw [hl] at p1; cases p1
      have hrun : (execOp a.eval o).run P w = .ok (.value (.tuple #[.bool false])) w := by
        simp [execOp, ho, hE, Instr.next, getObj_runI p2, getObj_run q2, Question.forced]
      refine ⟨_, _, _, G, _, _, _, hrun, .inl rfl, .tup rfl ?_, hR, Evo.refl _ _, h3⟩
      intro k u y hu hy
      match k with
      | 0 => simp at hu hy; subst hu; subst hy; exact .bool _
      | k + 1 => simp at hu
  · exact hk.elim

end
end Go.Bm

/- The second abstract machine: what it says of an operation holds. -/
namespace Go.Bm
open Go

section
variable {P : Program} {o : Oper} {a : Act} {w : World} {G : Gh} {tt : Regs} {v : PV} {μ : Mem} {L : Lv} {ao : AOp} {K : KA}

theorem fieldsT_spec {t : TypeId} {fs : Array Field} (h : fieldsT P t = some fs) : P.underlying t = some (.struct fs) := by
  unfold fieldsT at h
  split at h
  · rename_i h1; cases h; exact h1
  · cases h

theorem zeroV_spec {t : TypeId} {z : PV} (hz : zeroV P t = some z) : ∃ i zv, P.info? t = some i ∧ i.zero = some zv ∧ RV G w zv z := by
  unfold zeroV at hz
  split at hz
  · rename_i zs i h1 h2
    split at hz
    · rename_i cs h3
      split at hz
      · rename_i h4
        cases hz
        obtain ⟨q1, q2, q3⟩ := constsOk_RV (G := G) (w := w) h4
        exact ⟨i, _, h2, h3, .agg (by simpa using q1) q2 (fun k u y hu hy => q3 k u y (by simpa using hu) hy)⟩
      · cases hz
    · rename_i zv _ h3
      split at hz
      · split at hz
        · rename_i h4
          cases hz
          exact ⟨i, zv, h2, h3, (constOk_RV h4).1⟩
        · cases hz
      · cases hz
    · cases hz
  · cases hz

theorem op_tass {t xt : TypeId} {x : Operand} {x' : AX} {z : PV} {d : TypeDesc} (ho : o.op = .typeAssert x xt t true) (ht : P.underlying t = some d) (hd : ∀ ms, d ≠ .interface ms)
    (hz : zeroV P t = some z) (hx : ax P xt x = some x') (h : FR G w tt a.tmps) (hk : kernP (.tass t z x') tt = some v) : Gives P o a w G v := by
  obtain ⟨i, zv, z1, z2, z3⟩ := zeroV_spec (G := G) (w := w) hz
  have hrun : ∀ u, (Instr.typeAssert (a.eval x) xt t true).run P w = .ok u w → (execOp a.eval o).run P w = .ok (.value u) w := by
    intro u hu
    simp [execOp, ho, hu]
  have hzr := run_zeroValue (P := P) (w := w) z1 z2
  have pair : ∀ {u : Value} {y : PV} (b : Bool), RV G w u y → RV G w (.tuple #[u, .bool b]) (.tup [y, .bool b]) := by
    intro u y b hu
    refine .tup rfl ?_
    intro k u' y' h1 h2
    match k with
    | 0 => simp at h1 h2; subst h1; subst h2; exact hu
    | 1 => simp at h1 h2; subst h1; subst h2; exact .bool _
    | k + 2 => simp at h2
  simp only [kernP] at hk
  split at hk
  · rename_i ty v' hs
    cases hk
    have e1 := h.opdv hx hs
    generalize hE : a.eval x = vx at e1
    cases e1 with
    | @iface _ u _ hu =>
      by_cases hty : ty = t
      · rw [if_pos hty]
        refine ⟨_, hrun (.tuple #[u, .bool true]) ?_, pair true hu⟩
        rw [hE]
        subst hty
        cases d <;> first | exact absurd rfl (hd _) | simp [Instr.typeAssert, run_underlying ht]
      · rw [if_neg hty]
        refine ⟨_, hrun (.tuple #[zv, .bool false]) ?_, pair false z3⟩
        rw [hE]
        cases d <;> first | exact absurd rfl (hd _) | simp [Instr.typeAssert, run_underlying ht, hty, hzr]
  · rename_i hs
    cases hk
    have e1 := h.opdv hx hs
    generalize hE : a.eval x = vx at e1
    cases e1 with
    | nilif =>
      refine ⟨_, hrun (.tuple #[zv, .bool false]) ?_, pair false z3⟩
      rw [hE]
      cases d <;> first | exact absurd rfl (hd _) | simp [Instr.typeAssert, run_underlying ht, hzr]
  · cases hk

/-- What does not look at the memory. -/
theorem opM_of {x : AOp} (hk : opM x tt μ L K) (he : opM x tt μ L K = match kernP x tt with | some v => K v μ L | none => False) : ∃ v, kernP x tt = some v ∧ K v μ L := by
  rw [he] at hk
  split at hk
  · rename_i v hv; exact ⟨v, hv, hk⟩
  · exact hk.elim

theorem op_sound (hr : resolve P o = some ao) (h : FR G w tt a.tmps) (hR : Rel G μ L w) (hk : opM ao tt μ L K) : OpK P o a w G K := by
  unfold resolve at hr
  split at hr
  -- move
  · rename_i x ho
    simp only [Option.map_eq_some_iff] at hr
    obtain ⟨x', hx, rfl⟩ := hr
    exact (op_mv (.inl ho) hx h).opK hR (by simpa [opM, kernP] using hk)
  -- assign
  · rename_i x ho
    simp only [Option.map_eq_some_iff] at hr
    obtain ⟨x', hx, rfl⟩ := hr
    exact (op_mv (.inr ho) hx h).opK hR (by simpa [opM, kernP] using hk)
  -- pick
  · rename_i c x y ho
    split at hr
    · rename_i c' x' y' h1 h2 h3; cases hr; obtain ⟨v, k1, k2⟩ := opM_of hk rfl; exact (op_pick ho h1 h2 h3 h k1).opK hR k2
    · cases hr
  -- alloc
  · rename_i t ho
    simp only [Option.map_eq_some_iff] at hr
    obtain ⟨z, hz, rfl⟩ := hr
    exact op_alloc ho hz hR hk
  -- box
  · rename_i t x ho
    split at hr
    · rename_i n x' h1 h2; cases hr; exact op_box ho h2 h hR hk
    · cases hr
  -- build
  · rename_i t parts ho
    split at hr
    · rename_i fs hu
      split at hr
      · rename_i z ps h1 h2; cases hr; obtain ⟨v, k1, k2⟩ := opM_of hk rfl; exact (op_build ho hu h1 h2 h k1).opK hR k2
      · cases hr
    · rename_i n el hu
      split at hr
      · rename_i z n' h1 h2
        split at hr
        · rename_i ps h3; cases hr; obtain ⟨v, k1, k2⟩ := opM_of hk rfl; exact (op_buildA ho hu h1 h2 h3 h k1).opK hR k2
        · cases hr
      · cases hr
    · cases hr
  -- buildSlice
  · rename_i t len parts ho
    split at hr
    · rename_i el he
      split at hr
      · rename_i g sz z ps h1 h2 h3 h4
        split at hr
        · rename_i hc; cases hr; obtain ⟨v, k1, k2⟩ := opM_of hk rfl; exact op_bslice ho (elemT_spec he) h1 h2 h3 h4 hc.1 hc.2.1 hc.2.2 h hR k1 k2
        · cases hr
      · cases hr
    · cases hr
  -- load
  · rename_i t x ho
    split at hr
    · rename_i g x' h1 h2; cases hr; exact op_load ho h1 h2 h hR hk
    · cases hr
  -- store
  · rename_i t x y ho
    split at hr
    · rename_i n x' y' h1 h2 h3; cases hr; exact op_store ho h1 h2 h3 h hR hk
    · cases hr
  -- nilCheck
  · rename_i x ho
    simp only [Option.map_eq_some_iff] at hr
    obtain ⟨x', hx, rfl⟩ := hr
    obtain ⟨v, k1, k2⟩ := opM_of hk rfl; exact (op_nilck ho hx h k1).opK hR k2
  -- binOp
  · rename_i op t x y yt ho
    split at hr
    · rename_i fs hu
      split at hr
      · cases hr
      · rename_i hg
        split at hr
        · rename_i ks hks
          split at hr
          · rename_i x' y' h1 h2; cases hr; obtain ⟨v, k1, k2⟩ := opM_of hk rfl; exact (op_eqs (neg := false) ho h1 h2 rfl hu (by simpa using hg) hks h k1).opK hR k2
          · rename_i x' y' h1 h2; cases hr; obtain ⟨v, k1, k2⟩ := opM_of hk rfl; exact (op_eqs (neg := true) ho h1 h2 rfl hu (by simpa using hg) hks h k1).opK hR k2
          · cases hr
        · cases hr
    · split at hr
      · rename_i x' y' h1 h2; cases hr; obtain ⟨v, k1, k2⟩ := opM_of hk rfl; exact (op_bin ho h1 h2 h k1).opK hR k2
      · cases hr
    · split at hr
      · rename_i x' y' h1 h2; cases hr; obtain ⟨v, k1, k2⟩ := opM_of hk rfl; exact (op_bin ho h1 h2 h k1).opK hR k2
      · cases hr
    · rename_i hu
      split at hr
      · rename_i x' y' h1 h2; cases hr; obtain ⟨v, k1, k2⟩ := opM_of hk rfl; exact (op_binb (neg := false) ho h1 h2 rfl hu h k1).opK hR k2
      · rename_i x' y' h1 h2; cases hr; obtain ⟨v, k1, k2⟩ := opM_of hk rfl; exact (op_binb (neg := true) ho h1 h2 rfl hu h k1).opK hR k2
      · cases hr
    · rename_i q hu
      split at hr
      · simp only [Option.map_eq_some_iff] at hr
        obtain ⟨x', hx, rfl⟩ := hr
        obtain ⟨v, k1, k2⟩ := opM_of hk rfl; exact (op_isnil (neg := false) ho hx rfl (.inl ⟨rfl, ⟨_, hu⟩, rfl⟩) h k1).opK hR k2
      · simp only [Option.map_eq_some_iff] at hr
        obtain ⟨x', hx, rfl⟩ := hr
        obtain ⟨v, k1, k2⟩ := opM_of hk rfl; exact (op_isnil (neg := true) ho hx rfl (.inl ⟨rfl, ⟨_, hu⟩, rfl⟩) h k1).opK hR k2
      · cases hr
    · rename_i q1 q2 q3 hu
      split at hr
      · simp only [Option.map_eq_some_iff] at hr
        obtain ⟨x', hx, rfl⟩ := hr
        obtain ⟨v, k1, k2⟩ := opM_of hk rfl; exact (op_isnil (neg := false) ho hx rfl (.inr (.inl ⟨rfl, ⟨_, _, _, hu⟩, rfl⟩)) h k1).opK hR k2
      · simp only [Option.map_eq_some_iff] at hr
        obtain ⟨x', hx, rfl⟩ := hr
        obtain ⟨v, k1, k2⟩ := opM_of hk rfl; exact (op_isnil (neg := true) ho hx rfl (.inr (.inl ⟨rfl, ⟨_, _, _, hu⟩, rfl⟩)) h k1).opK hR k2
      · cases hr
    · rename_i q hu
      split at hr
      · simp only [Option.map_eq_some_iff] at hr
        obtain ⟨x', hx, rfl⟩ := hr
        obtain ⟨v, k1, k2⟩ := opM_of hk rfl; exact (op_isnil (neg := false) ho hx rfl (.inr (.inr ⟨rfl, ⟨_, hu⟩, rfl⟩)) h k1).opK hR k2
      · simp only [Option.map_eq_some_iff] at hr
        obtain ⟨x', hx, rfl⟩ := hr
        obtain ⟨v, k1, k2⟩ := opM_of hk rfl; exact (op_isnil (neg := true) ho hx rfl (.inr (.inr ⟨rfl, ⟨_, hu⟩, rfl⟩)) h k1).opK hR k2
      · cases hr
    · rename_i el hu
      split at hr
      · simp only [Option.map_eq_some_iff] at hr
        obtain ⟨x', hx, rfl⟩ := hr
        exact op_isnils (neg := false) ho hx rfl rfl hu h hR hk
      · simp only [Option.map_eq_some_iff] at hr
        obtain ⟨x', hx, rfl⟩ := hr
        exact op_isnils (neg := true) ho hx rfl rfl hu h hR hk
      · cases hr
    · cases hr
  -- unOp
  · rename_i op t x ho
    simp only [Option.map_eq_some_iff] at hr
    obtain ⟨x', hx, rfl⟩ := hr
    obtain ⟨v, k1, k2⟩ := opM_of hk rfl; exact (op_un ho hx h k1).opK hR k2
  -- convert
  · rename_i src dst x ho
    split at hr
    · rename_i k0 k h1 h2
      simp only [Option.map_eq_some_iff] at hr
      obtain ⟨x', hx, rfl⟩ := hr
      obtain ⟨v, k1, k2⟩ := opM_of hk rfl; exact (op_conv ho h1 h2 hx h k1).opK hR k2
    · rename_i el h1 h2
      split at hr
      · rename_i h3
        split at hr
        · simp only [Option.map_eq_some_iff] at hr
          obtain ⟨x', hx, rfl⟩ := hr
          exact op_b2s ho h1 h3 h2 hx h hR hk
        · cases hr
      · cases hr
    · cases hr
  -- makeInterface
  · rename_i t x ho
    split at hr
    · cases hr
    · rename_i d hne hu
      simp only [Option.map_eq_some_iff] at hr
      obtain ⟨x', hx, rfl⟩ := hr
      exact (op_mkif ho ⟨d, hu, hne⟩ hx h).opK hR (by simpa [opM, kernP] using hk)
    · cases hr
  -- makeFunc
  · rename_i f x y ho
    split at hr
    · rename_i x' y' h1 h2; cases hr; exact (op_mkfn ho h1 h2 h).opK hR (by simpa [opM, kernP] using hk)
    · cases hr
  -- makeSlice
  · rename_i t l c ho
    split at hr
    · rename_i el he
      split at hr
      · rename_i g i z l' c' h1 h2 h3 h4 h5
        split at hr
        · rename_i hc
          cases hr
          exact op_mkslice ho (elemT_spec he) h2 h3 h4 h5 hc.1 hc.2 h hR hk
        · cases hr
      · cases hr
    · cases hr
  -- slice
  · rename_i t x lo hi mx ho
    split at hr
    · rename_i el hu
      split at hr
      · rename_i sz x' lo' hi' mx' h1 h2 h3 h4 h5
        split at hr
        · cases hr
        · rename_i hc
          cases hr
          obtain ⟨v, k1, k2⟩ := opM_of hk rfl
          refine (op_slice ho hu h1 h2 h3 h4 h5 ?_ h k1).opK hR k2
          intro hm
          cases mx with
          | none => simp at hm
          | some y =>
            obtain ⟨z, rfl, _⟩ := axo_some h5
            cases hi with
            | none => simp only [axo] at h4; cases h4; simp at hc
            | some => rfl
      · cases hr
    · rename_i hu
      split at hr
      · rename_i x' lo' hi' h1 h2 h3; cases hr; obtain ⟨v, k1, k2⟩ := opM_of hk rfl; exact (op_sstr ho hu h1 h2 h3 h k1).opK hR k2
      · cases hr
    · cases hr
  -- fieldAddr
  · rename_i t x fi ho
    split at hr
    · rename_i fs hf
      split at hr
      · rename_i f hfi
        split at hr
        · rename_i n x' h1 h2
          split at hr
          · cases hr
          · rename_i hn; cases hr; obtain ⟨v, k1, k2⟩ := opM_of hk rfl; exact (op_faddr ho (fieldsT_spec hf) hfi h1 hn h2 h k1).opK hR k2
        · cases hr
      · cases hr
    · cases hr
  -- indexAddr
  · rename_i t x i ho
    split at hr
    · rename_i el he
      split at hr
      · rename_i sz x' i' h1 h2 h3
        split at hr
        · cases hr
        · cases hr; obtain ⟨v, k1, k2⟩ := opM_of hk rfl; exact (op_iaddr ho (elemT_spec he) h1 h2 h3 h k1).opK hR k2
      · cases hr
    · cases hr
  -- field
  · rename_i t x fi ho
    split at hr
    · rename_i fs hf
      split at hr
      · rename_i f hfi
        split at hr
        · rename_i g x' h1 h2; cases hr; obtain ⟨v, k1, k2⟩ := opM_of hk rfl; exact (op_fld ho (fieldsT_spec hf) hfi h1 h2 h k1).opK hR k2
        · cases hr
      · cases hr
    · cases hr
  -- index
  · rename_i t x i ho
    split at hr
    · rename_i n el hu
      split at hr
      · rename_i g sz x' i' h1 h2 h3 h4; cases hr; obtain ⟨v, k1, k2⟩ := opM_of hk rfl; exact (op_idx ho hu h1 h2 h3 h4 h k1).opK hR k2
      · cases hr
    · rename_i hu
      split at hr
      · rename_i x' i' h1 h2; cases hr; obtain ⟨v, k1, k2⟩ := opM_of hk rfl; exact (op_sidx ho hu h1 h2 h k1).opK hR k2
      · cases hr
    · cases hr
  -- extract
  · rename_i x i ho
    simp only [Option.map_eq_some_iff] at hr
    obtain ⟨x', hx, rfl⟩ := hr
    obtain ⟨v, k1, k2⟩ := opM_of hk rfl; exact (op_extr ho hx h k1).opK hR k2
  -- typeAssert
  · rename_i x xt t ok ho
    split at hr
    · cases hr
    · rename_i d z hne hu hz
      split at hr
      · rename_i hok
        subst hok
        simp only [Option.map_eq_some_iff] at hr
        obtain ⟨x', hx, rfl⟩ := hr
        obtain ⟨v, k1, k2⟩ := opM_of hk rfl; exact (op_tass ho hu (fun ms e => hne ms e) hz hx h k1).opK hR k2
      · cases hr
    · cases hr
  -- panic
  · simp only [Option.map_eq_some_iff] at hr
    obtain ⟨x', hx, rfl⟩ := hr
    simp [opM, kernP] at hk
  -- defer
  · split at hr
    · split at hr
      · cases hr; simp [opM, kernP] at hk
      · cases hr
    · cases hr
  -- call
  · rename_i c ho
    split at hr
    · split at hr
      · cases hr; simp [opM, kernP] at hk
      · cases hr
    · cases hr
    · rename_i hc
      split at hr
      · rename_i t x h1 h2
        split at hr
        · rename_i hu
          simp only [Option.map_eq_some_iff] at hr
          obtain ⟨x', hx, rfl⟩ := hr
          obtain ⟨v, k1, k2⟩ := opM_of hk rfl; exact (op_slen ho hc h1 h2 hu hx h k1).opK hR k2
        · rename_i el hu
          simp only [Option.map_eq_some_iff] at hr
          obtain ⟨x', hx, rfl⟩ := hr
          obtain ⟨v, k1, k2⟩ := opM_of hk rfl; exact (op_len ho hc h1 h2 hu hx h k1).opK hR k2
        · rename_i k v hu
          simp only [Option.map_eq_some_iff] at hr
          obtain ⟨x', hx, rfl⟩ := hr
          exact op_mlen ho hc h1 h2 hu hx h hR hk
        · cases hr
      · cases hr
    · rename_i hc
      split at hr
      · rename_i t u x y h1 h2
        split at hr
        · rename_i el el' he hu
          split at hr
          · rename_i i x' y' h3 h4 h5
            split at hr
            · rename_i hcc
              cases hr
              exact op_append ho hc h1 h2 (elemT_spec he) hu h3 hcc.1 hcc.2 h4 h5 h hR hk
            · cases hr
          · cases hr
        · cases hr
      · cases hr
    · cases hr; simp [opM, kernP] at hk
    · rename_i hc
      split at hr
      · rename_i x y h1
        split at hr
        · rename_i x' y' h2 h3; cases hr; obtain ⟨v, k1, k2⟩ := opM_of hk rfl; exact (op_mnx (mx := false) ho hc h1 h2 h3 h k1).opK hR k2
        · cases hr
      · cases hr
    · rename_i hc
      split at hr
      · rename_i x y h1
        split at hr
        · rename_i x' y' h2 h3; cases hr; obtain ⟨v, k1, k2⟩ := opM_of hk rfl; exact (op_mnx (mx := true) ho hc h1 h2 h3 h k1).opK hR k2
        · cases hr
      · cases hr
    · cases hr
  -- makeMap
  · rename_i t ho
    cases hr
    exact op_mkmap ho hR hk
  -- range
  · rename_i t x ho
    split at hr
    · rename_i k el hu
      simp only [Option.map_eq_some_iff] at hr
      obtain ⟨x', hx, rfl⟩ := hr
      exact op_rangem ho hu hx h hR hk
    · cases hr
  -- next
  · rename_i x ho
    simp only [Option.map_eq_some_iff] at hr
    obtain ⟨x', hx, rfl⟩ := hr
    exact op_nextm ho hx h hR hk
  · cases hr

theorem op_soundE (hr : resolve P o = some ao.erase) (h : FR G w tt a.tmps) (hR : Rel G μ L w) (hk : opM ao tt μ L K) : OpK P o a w G K := by
  cases ao
  case fbox n x =>
    obtain ⟨t, xo, ho, hx⟩ : ∃ t xo, o.op = .box t xo ∧ ax P t xo = some x := by
      simp only [AOp.erase] at hr
      unfold resolve at hr
      split at hr
      case h_5 t xo ho =>
        split at hr
        · rename_i n' x' h1 h2; cases hr; exact ⟨t, xo, ho, h2⟩
        · cases hr
      all_goals first | (cases hr; done) | skip
      all_goals (repeat' split at hr) <;> first | (cases hr; done) | (simp only [Option.map_eq_some_iff] at hr; obtain ⟨_, _, e⟩ := hr; cases e)
    obtain ⟨v, k1, k2⟩ := opM_of hk rfl
    exact op_fbox ho hx h hR k1 k2
  all_goals exact op_sound hr h hR hk

end
end Go.Bm
