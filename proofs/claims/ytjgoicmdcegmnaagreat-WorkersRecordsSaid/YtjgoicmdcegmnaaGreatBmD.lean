/- The machine: functions, deferred calls, rounds, ghost steps, and how code is walked. -/
import Derived.Test.YtjgoicmdcegmnaaGreatBmC
import Derived.RangeFuncRecord
import Derived.RecoverIn
import Derived.IntWalk

set_option linter.unusedVariables false
set_option linter.unusedSimpArgs false

/- The second abstract machine: code does what it says; functions. -/
namespace Go.Bm
open Go

section
variable {P : Program} {nt : Nat}

/-- What is asked of a state, asked of a frame and a world. -/
def QOk (nt : Nat) (G0 : Gh) (w0 : World) (Q : AEx → St → Prop) : Exit → Act → World → Prop
  | .normal, a, w => Holds nt G0 w0 (Q .normal) a w
  | .exit k, a, w => Holds nt G0 w0 (Q (.exit k)) a w
  | .ret, a, w => Holds nt G0 w0 (Q .ret) a w
  | .panic chain, a, w => HoldsP nt G0 w0 (fun p => Q (.pan p)) chain a w
  | _, _, _ => False

theorem wp_loop_lt {ro : Option Nat} {c : Code} {Q : Exit → Act → World → Prop} (I : Nat → Act → World → Prop) (round : ∀ n a w, I n a w → c.wpIn (FW ro) 0 P (Exit.then (fun a' w' => ∃ m, m < n ∧ I m a' w') Q) a w) : ∀ (n : Nat) (a : Act) (w : World), I n a w → (Code.loop c).wpIn (FW ro) 0 P Q a w := by
  intro n a w h0 b k cs hro hb hr
  have key : ∀ n a w, I n a w → ∃ e a' w', Q e a' w' ∧ ArrivesIn (Machine.fenced P (FW ro)) P (lone (b.atR a (.code c :: .inLoop c :: k)) cs w) b k cs e a' w' := by
    intro n
    induction n using Nat.strongRecOn with
    | _ n ih =>
      intro a w hI
      obtain ⟨e, a₁, w₁, hq, harr⟩ := round n a w hI b (.inLoop c :: k) cs hro hb hr
      cases e with
      | normal =>
        obtain ⟨m, hlt, hI₁⟩ := hq
        obtain ⟨e₂, a₂, w₂, hq₂, harr₂⟩ := ih m hlt a₁ w₁ hI₁
        exact ⟨e₂, a₂, w₂, hq₂, .of_steps (StepsIn.trans harr (.one (fenced_calm hb hr rfl) stepR_inLoop)) harr₂⟩
      | exit id => exact ⟨_, a₁, w₁, hq, .pass (x := .inLoop c) rfl (fun _ _ => .inl (by simp)) harr⟩
      | goto l => exact ⟨_, a₁, w₁, hq, .pass (x := .inLoop c) rfl (fun _ _ => .inl (by simp)) harr⟩
      | ret => exact ⟨_, a₁, w₁, hq, .pass (x := .inLoop c) rfl (fun _ _ => .inl (by simp)) harr⟩
      | panic ch => exact ⟨_, a₁, w₁, hq, .pass (x := .inLoop c) rfl (fun _ _ => .inl (by simp)) harr⟩
      | outgrown => exact ⟨_, a₁, w₁, hq, .pass (x := .inLoop c) rfl (fun _ _ => .inl (by simp)) harr⟩
  obtain ⟨e, a', w', hq, harr⟩ := key n a w h0
  exact ⟨e, a', w', hq, .of_steps (.one (fenced_calm hb hr rfl) stepR_loop) harr⟩

theorem Mean.drew {G : Gh} {σ : St} {a : Act} {w : World} (h : Mean nt G σ a w) : Mean nt G σ a w.drew := by
  obtain ⟨h1, h2⟩ := h.rel.drew
  exact ⟨h.size, h.df.evo h2, h.fr.evo h2, h1⟩

/-- Operations in the order of the text. -/
theorem run_sound {ro : Option Nat} {ops : Array Oper} {K : St → Prop} {KP : PV → St → Prop} {Q : Exit → Act → World → Prop} {G0 : Gh} {w0 : World} (hQ : ∀ a w, Holds nt G0 w0 K a w → Q .normal a w) (hP : ∀ chain a w, HoldsP nt G0 w0 KP chain a w → Q (.panic chain) a w) (hd : ro = none ∨ ∀ (i : Nat) o, ops[i]? = some o → ∀ c, o.op ≠ .defer c) :
    ∀ (n : Nat) (rs : List ROp) (k : Nat), (∀ j r, rs[j]? = some r → ∃ o, ops[k + j]? = some o ∧ resolveOp P nt ops r.pre o = some r.erase) → n = rs.length → ∀ {σ : St} {G : Gh} {a : Act} {w : World}, runA P rs K KP σ → Mean nt G σ a w → Evo G0 w0 G w →
    wpOpsIn (FW ro) 0 P ops Q (List.range' k n) a w
  | 0, rs, k, hr, hn, σ, G, a, w, hrun, hm, hev => by
    have : rs = [] := List.eq_nil_of_length_eq_zero hn.symm
    subst this
    exact hQ a w ⟨σ, G, hrun, hm, hev⟩
  | n + 1, [], k, hr, hn, σ, G, a, w, hrun, hm, hev => by simp at hn
  | n + 1, r :: rs, k, hr, hn, σ, G, a, w, hrun, hm, hev => by
    obtain ⟨o, ho, hres⟩ := hr 0 r (by simp)
    simp only [Nat.add_zero] at ho
    simp only [List.range'_succ, wpOpsIn_cons]
    refine wpOpIn_mono ?_ (step_sound (Q := Q) ho hres hrun hm (fun chain a' w' hh => hP _ _ _ (hh.base hev)) (hd.imp id (fun h => h k o ho)))
    intro a' w' hh
    obtain ⟨σ', G', k1, k2, k3⟩ := hh
    refine run_sound hQ hP hd n rs (k + 1) (fun j r' hj => ?_) (by simpa using hn) k1 k2 (hev.trans k3)
    obtain ⟨o', q1, q2⟩ := hr (j + 1) r' (by simpa using hj)
    exact ⟨o', by rw [show k + 1 + j = k + (j + 1) by omega]; exact q1, q2⟩

theorem region_res {ops : Array Oper} {draw : Bool} {rs : List ROp} (h : resolveOps P nt ops draw [] ops.toList = some (rs.map ROp.erase)) : rs.length = ops.size ∧ ∀ (j : Nat) r, rs[j]? = some r → ∃ o, ops[0 + j]? = some o ∧ resolveOp P nt ops r.pre o = some r.erase := by
  obtain ⟨g1, g2⟩ := resolveOps_specE h
  have hl : rs.length = ops.size := by simpa using g1
  refine ⟨hl, fun j r hj => ?_⟩
  have hlt : j < ops.size := by rw [← hl]; exact (List.getElem?_eq_some_iff.1 hj).1
  have ho : ops[j]? = some ops[j] := Array.getElem?_eq_getElem hlt
  obtain ⟨r', q1, q2, _⟩ := g2 j ops[j] (by simp)
  rw [hj] at q1; cases q1
  exact ⟨_, by rw [Nat.zero_add]; exact ho, q2⟩

/-- Nothing is deferred. -/
def noDefer : Code → Bool
  | .region _ ops _ => ops.toList.all fun o => match o.op with
    | .defer _ => false
    | _ => true
  | .seq x y => noDefer x && noDefer y
  | .cond _ x y => noDefer x && noDefer y
  | .block _ x => noDefer x
  | .loop x => noDefer x
  | .rangeFunc .. => false
  | _ => true

theorem noDefer_ops {id : Nat} {ops : Array Oper} {d : Bool} (h : noDefer (.region id ops d) = true) : ∀ (i : Nat) o, ops[i]? = some o → ∀ c, o.op ≠ .defer c := by
  intro i o ho c e
  simp only [noDefer, List.all_eq_true] at h
  have := h o (by simpa using Array.mem_of_getElem? ho)
  rw [e] at this; cases this

/-- A block of an object turns. -/
theorem Rel.objPut {G : Gh} {μ μ' : Mem} {L : Lv} {w : World} (h : Rel G μ L w) {i b s : Nat} {o : Obj} (hloc : G.loc i = some (b, s)) (hown : G.ow b = some (.obj i)) (hfz : ∀ k, ¬ G.fz b k)
    (h0 : ∀ j x, j ≠ i → μ' j = some x → μ j = some x) (h1 : ∀ x, Evo G w G (w.putObj b o) → μ' i = some x → ObjR G (w.putObj b o) i x) : Rel G μ' L (w.putObj b o) ∧ Evo G w G (w.putObj b o) := by
  have hev : Evo G w G (w.putObj b o) := by
    refine ⟨Nat.le_refl _, fun _ _ h => h, fun _ _ h => h, fun _ _ h => h, fun _ _ h => h, ?_, ?_, by simp, rfl, rfl, rfl, fun _ _ _ _ h => h, fun _ _ h => h, fun h => h⟩
    · intro b' k hk
      have hne : b' ≠ b := fun e => hfz k (e ▸ hk)
      simp [World.cell?, World.putObj_heap_other hne]
    · intro b' _ ho
      exact ⟨World.putObj_heap_other (fun e => by subst e; rw [hown] at ho; cases ho), ho⟩
  refine ⟨h.carry hev ?_ ?_ (fun b' k hk => by simpa using h.fzlt b' k hk) (fun b' hb' => by simpa using h.owlt b' hb') ?_, hev⟩
  · intro j x hj
    by_cases e : j = i
    · subst e; exact .inr (h1 x hev hj)
    · exact .inl ⟨h0 j x e hj, fun b' s' _ ho' => ⟨World.putObj_heap_other (fun e' => by subst e'; rw [hown] at ho'; cases ho'; exact e rfl), ho', fun _ h => h⟩⟩
  · intro j hj
    exact .inl ⟨hj, fun b' p x _ ho' => ⟨World.putObj_heap_other (fun e => by subst e; rw [hown] at ho'; cases ho'), ho', fun _ _ h => h⟩⟩
  · intro j hj
    obtain ⟨q1, q2, q3, q4⟩ := h.nx j hj
    refine ⟨q1, q2, ?_, q4⟩
    cases hm : μ' j with
    | none => rfl
    | some x => rw [h0 j x (by have := h.loclt hloc; omega) hm] at q3; cases q3

theorem rangeF_sound {G0 : Gh} {w0 : World} {G : Gh} {σ : St} {a : Act} {w : World} {g : Operand} {ps : Array Tmp} {cx cy : Code} {fid : FuncId} {first cap : List PV} {Q : AEx → St → Prop} (h : Mean nt G σ a w)
    (hf : ∃ us1 us2 : Array Value, a.eval g = .func (.func fid) us1 us2 ∧ us1.size = first.length ∧ us2.size = cap.length ∧ Pts G w us1 first ∧ Pts G w us2 cap)
    (hw : ∀ i d, Fresh σ.μ σ.L i → Fresh σ.μ σ.L d → i ≠ d →
      ACall P fid (first ++ [.yld i] ++ cap) ((σ.μ.set d .dq).set i (.lp false ⟨nt, σ.t, ps.toList, cx, cy, d⟩)) σ.L
        (fun _ μ' L' => μ' i = some (.lp false ⟨nt, σ.t, ps.toList, cx, cy, d⟩) ∧ Q .normal ⟨σ.t, μ'.del i, L', .coll d :: σ.df⟩) (fun _ _ _ => False))
    (hev : Evo G0 w0 G w) : (Code.rangeFunc g ps cx cy).wpIn (FW none) 0 P (QOk nt G0 w0 Q) a w := by
  obtain ⟨us1, us2, hE, n1, n2, n3, n4⟩ := hf
  refine wpIn_rangeFunc ?_
  intro fn _
  obtain ⟨G1, hr1, he1, hl1, hx1⟩ := h.rel.newAny (.deferred (some [])) .dq (fun G' w' q1 q2 q3 q4 _ => ⟨_, _, q1, q2, q3, q4⟩)
  obtain ⟨G2, hr2, he2, hl2, hx2⟩ := hr1.newAny (.loop { state := .ready, pending := none, fn := fn, tmps := a.tmps, params := ps, assign := cx, body := cy, defers := w.heap.size }) (.lp false ⟨nt, σ.t, ps.toList, cx, cy, G.nx⟩)
    (fun G' w' q1 q2 q3 q4 q5 => ⟨_, _, _, q1, q2, q3, q4, rfl, rfl, h.size, h.fr.evo (he1.trans q5), rfl, rfl, rfl⟩)
  have hsz : (w.alloc (.deferred (some []))).heap.size = w.heap.size + 1 := by simp
  rw [hsz] at hl2
  have hent := run_enterLoop_outer (P := P) (w := w) fn a.tmps ps cx cy
  obtain ⟨W, hW⟩ : ∃ W, W = (w.alloc (.deferred (some []))).alloc (.loop { state := .ready, pending := none, fn := fn, tmps := a.tmps, params := ps, assign := cx, body := cy, defers := w.heap.size }) := ⟨_, rfl⟩
  rw [← hW] at hr2 he2 hent
  have he := he1.trans he2
  obtain ⟨q1, q2, q3, q4⟩ := h.rel.nx G.nx (Nat.le_refl _)
  obtain ⟨p1, p2, p3, p4⟩ := h.rel.nx (G.nx + 1) (by omega)
  rw [hx1] at hr2 hl2
  obtain ⟨⟨fnc, e1, e2, e3⟩, hcall⟩ := hw (G.nx + 1) G.nx ⟨p3, p4⟩ ⟨q3, q4⟩ (by omega)
  have hh := hcall G2 W (us1 ++ #[.func (.yield (w.heap.size + 1)) #[] #[]] ++ us2) (by simp [n1, n2]; omega) (pts_concat n1 (by simp) (n3.evo he) (by
    intro k u y hu hy
    cases k with
    | zero =>
      simp only [List.getElem?_cons_zero, Option.some.injEq, List.getElem?_toArray] at hu hy
      subst hu; subst hy; exact .yld hl2
    | succ k => simp at hy) (n4.evo he)) hr2
  have hres : (Go.resolve a.eval (rangeCall g (w.heap.size + 1)) 0).run P W = .ok { target := .fn (.func fid) us2, args := us1 ++ #[.func (.yield (w.heap.size + 1)) #[] #[]] } W := by
    have hE2 : a.eval (.const (.func (.yield (w.heap.size + 1)) #[] #[])) = .func (.yield (w.heap.size + 1)) #[] #[] := rfl
    simp [Go.resolve, hE, hE2, Deferred.ofValue]
  have hinv : (invoke (.fn (.func fid) us2) (us1 ++ #[.func (.yield (w.heap.size + 1)) #[] #[]])).run P W = .ok (.enter fid (us1 ++ #[.func (.yield (w.heap.size + 1)) #[] #[]] ++ us2)) W := by
    have h3' : ¬ fnc.body = none := by cases hb : fnc.body <;> simp_all
    have h2' : ¬ fnc.name = "runtime.NumGoroutine" := by simpa using e2
    simp [invoke, callFunc, e1, h2', h3']
  have hpost : ∀ e w3, EndR G2 W (fun _ μ' L' => μ' (G.nx + 1) = some (.lp false ⟨nt, σ.t, ps.toList, cx, cy, G.nx⟩) ∧ Q .normal ⟨σ.t, μ'.del (G.nx + 1), L', .coll G.nx :: σ.df⟩) (fun _ _ _ => False) e w3 →
      rangePost (FW none) 0 P (w.heap.size + 1) (QOk nt G0 w0 Q) { a with defers := [{ target := .collected w.heap.size, args := #[] }] ++ a.defers } e w3 := by
    intro e w3 he3
    cases e with
    | returned v =>
      obtain ⟨G', r, μ', L', k1, k2, k3, k4, k5⟩ := he3
      obtain ⟨b, s, l, m1, m2, m3, m4, m5⟩ := k2.obj _ _ k4
      rw [k3.loc _ _ hl2] at m1
      cases m1
      obtain ⟨o1, o2⟩ := k2.objPut (o := .loop { l with state := .exhausted }) (μ' := μ'.del (G.nx + 1)) (k3.loc _ _ hl2) m3 m4 (fun j x hj hx => by simpa [Mem.del, hj] using hx) (fun x _ hx => by simp [Mem.del] at hx)
      refine ⟨none, _, ?_, ⟨_, G', k5, ?_, hev.trans (he.trans (k3.trans o2))⟩⟩
      · rw [run_endLoop m2 (by rw [m5.1]; simp), m5.2.1]
      · have hhe := he.trans (k3.trans o2)
        refine ⟨h.size, ⟨⟨w.heap.size, 0, o2.loc _ _ (k3.loc _ _ (he2.loc _ _ hl1)), rfl⟩, h.df.evo hhe⟩, h.fr.evo hhe, o1⟩
    | panicked chain => exact False.elim (by obtain ⟨G', v, x, μ', L', k0, k1, k2, k3, k4⟩ := he3; exact k4)
    | outgrown => exact False.elim he3
  refine ⟨w.heap.size + 1, [{ target := .collected w.heap.size, args := #[] }], W, _, W, fid, _, W, hent, hres, fun _ _ => trivial, hinv, ?_, ?_⟩
  · intro hd; cases hd
  · exact (callsIn_wide (n := 0 - 1)).2 (Calls.mono hh hpost)

/-- Code does what the abstract machine says. -/
theorem aw_sound {ro : Option Nat} (hmix : P.follows .mixedOrders = true) {G0 : Gh} {w0 : World} : ∀ (c : Code) {ac : ACode} {Q : AEx → St → Prop} {σ : St} {G : Gh} {a : Act} {w : World}, resolveCode P nt c = some ac.erase → (ro = none ∨ noDefer c = true) → AW P ac Q σ → Mean nt G σ a w → Evo G0 w0 G w →
    c.wpIn (FW ro) 0 P (QOk nt G0 w0 Q) a w := by
  intro c
  induction c with
  | skip =>
    intro ac Q σ G a w hr hnd hw h hev
    cases ac <;> simp [resolveCode, ACode.erase] at hr
    exact wpIn_skip ⟨σ, G, hw, h, hev⟩
  | label l =>
    intro ac Q σ G a w hr hnd hw h hev
    cases ac <;> simp [resolveCode, ACode.erase] at hr
    exact wpIn_label ⟨σ, G, hw, h, hev⟩
  | region id ops draw =>
    intro ac Q σ G a w hr hnd hw h hev
    simp only [resolveCode] at hr
    split at hr
    · rename_i rs hrs
      cases ac <;> simp only [ACode.erase, Option.some.injEq, reduceCtorEq, ACode.reg.injEq] at hr
      case regp ord ops' =>
        obtain ⟨rfl, rfl⟩ := hr
        obtain ⟨h1, h2, W, h3⟩ := hw
        refine wpIn_region_any hmix ?_
        have h1' : okOrd (textOrd ord ops') ord = true := by simp only [okOrdP, Bool.and_eq_true] at h1; exact h1.2
        obtain ⟨k1, k2, k3⟩ := ord_ok hrs h1'
        have hlo : ord.length = ops.size := by
          have hp : ord.Perm (List.range ops.size) := by
            refine (List.perm_ext_iff_of_nodup ((okOrd_nodup (by simp only [okOrd, Bool.and_eq_true] at h1'; exact h1'.1)).1) List.nodup_range).2 ?_
            intro i; rw [k3]; simp
          simpa using hp.length_eq
        have h3' : runV P W (ord.filterMap ((textOrd ord ops')[·]?)) (Q .normal) (fun p => Q (.pan p)) σ := by rw [perm_eq h1]; exact h3
        refine any_soundW (W := W) (Q := QOk nt G0 w0 Q) k1 h2 (fun _ _ hh => hh) (fun _ _ _ hh => hh) (hnd.imp (fun q => q) noDefer_ops) ops.size ord _ hlo k2 ?_ (by simp) ?_ (runV_W h3') h.drew (hev.trans h.rel.drew.2)
        · intro i
          rw [k3]
          constructor
          · intro hi
            exact ⟨hi, by simp [Array.getD, hi]⟩
          · exact fun hi => hi.1
        · intro q r hq hl' _ p hp
          simp [Array.getD, hq] at hl'
      rename_i d0 rs0
      obtain ⟨rfl, rfl⟩ := hr
      obtain ⟨hl, hres⟩ := region_res hrs
      cases draw with
      | true =>
        obtain ⟨h1, h2, h3⟩ := hw
        refine wpIn_region_any hmix ?_
        have hrok := regOk hrs h1
        have hfm : (List.range ops.size).filterMap (rs0[·]?) = rs0 := by
          have e : ∀ (l : List ROp), (List.range l.length).filterMap (l[·]?) = l := by
            intro l
            induction l with
            | nil => rfl
            | cons x l ih =>
              rw [List.length_cons, List.range_succ_eq_map, List.filterMap_cons]
              simp only [List.getElem?_cons_zero, List.filterMap_map]
              congr 1
          rw [← hl]; exact e rs0
        refine any_sound (Q := QOk nt G0 w0 Q) hrok h2 (fun _ _ hh => hh) (fun _ _ _ hh => hh) (hnd.imp (fun q => q) noDefer_ops) ops.size (List.range ops.size) _ (by simp) List.pairwise_lt_range ?_ (by simp) ?_ (by rw [hfm]; exact h3) h.drew (hev.trans h.rel.drew.2)
        · intro i
          simp only [List.mem_range]
          constructor
          · intro hi
            exact ⟨hi, by simp [Array.getD, hi]⟩
          · exact fun hi => hi.1
        · intro q r hq hl' _ p hp
          simp [Array.getD, hq] at hl'
      | false =>
        simp only [AW] at hw
        refine wpIn_region ?_
        have := run_sound (Q := QOk nt G0 w0 Q) (ops := ops) (fun _ _ hh => hh) (fun _ _ _ hh => hh) (hnd.imp (fun q => q) noDefer_ops) ops.size rs0 0 hres hl.symm hw h hev
        rw [List.range_eq_range']; exact this
    · cases hr
  | seq x y ihx ihy =>
    intro ac Q σ G a w hr hnd hw h hev
    simp only [resolveCode] at hr
    split at hr
    · rename_i cx cy h1 h2
      cases ac <;> simp only [ACode.erase, Option.some.injEq, reduceCtorEq, ACode.seq.injEq] at hr
      · obtain ⟨rfl, rfl⟩ := hr
        simp only [AW] at hw
        refine wpIn_seq (wpIn_mono (ihx h1 (hnd.imp (fun q => q) fun q => by simp only [noDefer, Bool.and_eq_true] at q; exact q.1) hw h hev) ?_)
        intro e a' w' hh
        cases e with
        | normal =>
          obtain ⟨σ', G', k1, k2, k3⟩ := hh
          exact ihy h2 (hnd.imp (fun q => q) fun q => by simp only [noDefer, Bool.and_eq_true] at q; exact q.2) k1 k2 k3
        | exit k => exact hh
        | ret => exact hh
        | panic chain => exact hh
        | goto l => exact hh.elim
        | outgrown => exact hh.elim
      · obtain ⟨rfl, rfl⟩ := hr
        simp only [AW] at hw
        refine wpIn_seq (wpIn_mono (ihx h1 (hnd.imp (fun q => q) fun q => by simp only [noDefer, Bool.and_eq_true] at q; exact q.1) hw h hev) ?_)
        intro e a' w' hh
        cases e with
        | normal =>
          obtain ⟨σ', G', ⟨S, k0, k1⟩, k2, k3⟩ := hh
          obtain ⟨σ'', G'', hS, q1, q2⟩ := k0 _ _ _ _ k2
          exact ihy h2 (hnd.imp (fun q => q) fun q => by simp only [noDefer, Bool.and_eq_true] at q; exact q.2) (k1 _ hS) q1 (k3.trans q2)
        | exit k => exact hh
        | ret => exact hh
        | panic chain => exact hh
        | goto l => exact hh.elim
        | outgrown => exact hh.elim
    · cases hr
  | cond c x y ihx ihy =>
    intro ac Q σ G a w hr hnd hw h hev
    simp only [resolveCode] at hr
    split at hr
    · split at hr
      · rename_i k cx cy h0 h1 h2
        cases ac <;> simp only [ACode.erase, Option.some.injEq, reduceCtorEq, ACode.cond.injEq] at hr
        obtain ⟨rfl, rfl, rfl⟩ := hr
        simp only [AW] at hw
        split at hw
        · rename_i b hb
          have hv' := RV.bool_inv (h.fr.opdv h0 hb)
          exact wpIn_cond_split hv' (fun ht => ihx h1 (hnd.imp (fun q => q) fun q => by simp only [noDefer, Bool.and_eq_true] at q; exact q.1) (hw.1 ht) h hev) (fun hf => ihy h2 (hnd.imp (fun q => q) fun q => by simp only [noDefer, Bool.and_eq_true] at q; exact q.2) (hw.2 hf) h hev)
        · exact hw.elim
      · cases hr
    · cases hr
  | block id x ih =>
    intro ac Q σ G a w hr hnd hw h hev
    simp only [resolveCode] at hr
    split at hr
    · rename_i cx h1
      cases ac <;> simp only [ACode.erase, Option.some.injEq, reduceCtorEq, ACode.block.injEq] at hr
      obtain ⟨rfl, rfl⟩ := hr
      simp only [AW] at hw
      refine wpIn_block (wpIn_mono (ih h1 (hnd.imp (fun q => q) fun q => by simpa only [noDefer] using q) hw h hev) ?_)
      intro e a' w' hh
      cases e with
      | exit k =>
        obtain ⟨σ', G', k1, k2, k3⟩ := hh
        simp only [Exit.inBlock]
        simp only at k1
        split
        · rename_i hk; rw [if_pos hk] at k1; exact ⟨σ', G', k1, k2, k3⟩
        · rename_i hk; rw [if_neg hk] at k1; exact ⟨σ', G', k1, k2, k3⟩
      | normal => exact hh
      | ret => exact hh
      | panic chain => exact hh
      | goto l => exact hh.elim
      | outgrown => exact hh.elim
    · cases hr
  | loop x ih =>
    intro ac Q σ G a w hr hnd hw h hev
    simp only [resolveCode] at hr
    split at hr
    · rename_i cx h1
      cases ac <;> simp only [ACode.erase, Option.some.injEq, reduceCtorEq, ACode.loop.injEq] at hr
      subst hr
      simp only [AW] at hw
      obtain ⟨I, ⟨n, h0⟩, hI⟩ := hw
      refine wp_loop_lt (fun n => Holds nt G0 w0 (I n)) ?_ n a w ⟨σ, G, h0, h, hev⟩
      intro n a w hh
      obtain ⟨σ', G', k1, k2, k3⟩ := hh
      refine wpIn_mono (ih h1 (hnd.imp (fun q => q) fun q => by simpa only [noDefer] using q) (hI n σ' k1) k2 k3) ?_
      intro e a' w' hh
      cases e with
      | normal =>
        obtain ⟨σ2, G2, ⟨m, hm, q1⟩, q2, q3⟩ := hh
        exact ⟨m, hm, σ2, G2, q1, q2, q3⟩
      | exit k => exact hh
      | ret => exact hh
      | panic chain => exact hh
      | goto l => exact hh.elim
      | outgrown => exact hh.elim
    · cases hr
  | exit id =>
    intro ac Q σ G a w hr hnd hw h hev
    cases ac <;> simp only [resolveCode, ACode.erase, Option.some.injEq, reduceCtorEq, ACode.exit.injEq] at hr
    subst hr
    exact wpIn_exit ⟨σ, G, hw, h, hev⟩
  | ret =>
    intro ac Q σ G a w hr hnd hw h hev
    cases ac <;> simp [resolveCode, ACode.erase] at hr
    exact wpIn_ret ⟨σ, G, hw, h, hev⟩
  | rangeFunc g ps cx cy ihx ihy =>
    intro ac Q σ G a w hr hnd hw h hev
    rcases hnd with rfl | hnd
    · simp only [resolveCode] at hr
      split at hr
      · split at hr
        · rename_i k ax ay h0 h1 h2
          cases ac <;> simp only [ACode.erase, Option.some.injEq, reduceCtorEq, ACode.rangeF.injEq] at hr
          obtain ⟨rfl, rfl, rfl, _, _, rfl, rfl⟩ := hr
          simp only [AW] at hw
          split at hw
          · rename_i fid first cap hfe
            have hfv := h.fr.opd h0
            rw [hfe] at hfv
            refine rangeF_sound h ?_ hw hev
            generalize hE : a.eval g = vf at hfv
            cases hfv with
            | fn n1 n2 n3 n4 => exact ⟨_, _, rfl, n1, n2, n3, n4⟩
          · exact hw.elim
        · cases hr
      · cases hr
    · simp [noDefer] at hnd
  | _ => intro ac Q σ G a w hr; simp [resolveCode] at hr

/-! ### Functions -/

/-- The slots at a call: the arguments. -/
def args0 (xs : List PV) : Regs := fun n => xs.getD n .junk

def undefs (n : Nat) : Array Value := Array.replicate n undef

theorem args0_FR {G : Gh} {w : World} {vals : Array Value} {xs : List PV} {m : Nat} (h1 : vals.size = xs.length) (hp : ∀ (k : Nat) u y, vals[k]? = some u → xs[k]? = some y → RV G w u y) : FR G w (args0 xs) (vals ++ undefs m) := by
  intro n
  unfold args0
  rw [List.getD_eq_getElem?_getD]
  by_cases hn : n < xs.length
  · have hv : n < vals.size := by omega
    rw [Array.getD_eq_getD_getElem?, Array.getElem?_append_left hv, Array.getElem?_eq_getElem hv, List.getElem?_eq_getElem hn]
    exact hp n _ _ (Array.getElem?_eq_getElem hv) (List.getElem?_eq_getElem hn)
  · rw [List.getElem?_eq_none (by omega)]
    exact .junk _

/-- A result. -/
def resPV (P : Program) (σ : St) : ResultVar → Option PV
  | .tmp t => some (σ.t t)
  | .cell a t => match aggOf P t, σ.t a with
    | some g, .ptr i off => match σ.μ i with
      | some (.cells cs) => partV g cs off
      | _ => none
    | _, _ => none

def resPVs (P : Program) (σ : St) : List ResultVar → Option (List PV)
  | [] => some []
  | r :: rs => match resPV P σ r, resPVs P σ rs with
    | some x, some xs => some (x :: xs)
    | _, _ => none

def resA (P : Program) (σ : St) (rs : List ResultVar) : Option PV :=
  match rs with
  | [r] => resPV P σ r
  | rs => (resPVs P σ rs).map .tup

def resRun (tm : Array Value) (r : ResultVar) : Sem Value :=
  match r with
  | .tmp t => pure (tm.getD t undef)
  | .cell a t => do loadVar t (← asAddr (tm.getD a undef))

theorem resPV_run {G : Gh} {σ : St} {a : Act} {w : World} (h : Mean nt G σ a w) {r : ResultVar} {x : PV} (hx : resPV P σ r = some x) : ∃ v, (resRun a.tmps r).run P w = .ok v w ∧ RV G w v x := by
  cases r with
  | tmp t => simp only [resPV, Option.some.injEq] at hx; subst hx; exact ⟨_, rfl, h.fr t⟩
  | cell ad t =>
    simp only [resPV] at hx
    split at hx
    · rename_i g i off hg hs
      split at hx
      · rename_i cs hcs
        have hv := h.fr ad
        rw [hs] at hv
        generalize hE : a.tmps.getD ad undef = vx at hv
        cases hv with
        | @ptr _ b s _ hb =>
          obtain ⟨u, h1, h2⟩ := run_loadV (P := P) hg (o0 := 0) (by simpa using h.rel.cellsAt hcs hb) hx
          rw [Nat.zero_add] at h1
          refine ⟨u, ?_, h2⟩
          simpa [resRun, hE, asAddr, Instr.loadAt, Instr.sureAddr] using h1
      · cases hx
    · cases hx

theorem resPVs_run {G : Gh} {σ : St} {a : Act} {w : World} (h : Mean nt G σ a w) : ∀ {rs : List ResultVar} {xs : List PV}, resPVs P σ rs = some xs → ∃ vs : List Value, (rs.mapM (resRun a.tmps)).run P w = .ok vs w ∧ vs.length = xs.length ∧ xs.length = rs.length ∧ ∀ (k : Nat) u y, vs[k]? = some u → xs[k]? = some y → RV G w u y
  | [], xs, hx => by simp [resPVs] at hx; subst hx; exact ⟨[], by simp, rfl, rfl, by simp⟩
  | r :: rs, xs, hx => by
    simp only [resPVs] at hx
    split at hx
    · rename_i y ys h1 h2
      cases hx
      obtain ⟨v, r1, r2⟩ := resPV_run h h1
      obtain ⟨vs, k1, k2, k4, k3⟩ := resPVs_run h h2
      refine ⟨v :: vs, by rw [List.mapM_cons]; simp [r1, k1], by simp [k2], by simp [k4], ?_⟩
      intro k u z hu hz
      cases k with
      | zero => simp at hu hz; subst hu; subst hz; exact r2
      | succ k => simp at hu hz; exact k3 k u z hu hz
    · cases hx

theorem results_eq {fn : Func} {tm : Array Value} {w : World} {vs : List Value} (h : (fn.results.toList.mapM (resRun tm)).run P w = .ok vs w) :
    (results fn tm).run P w = .ok (if h : vs.toArray.size = 1 then vs.toArray[0] else .tuple vs.toArray) w := by
  have e : (fn.results.mapM (resRun tm)).run P w = .ok vs.toArray w := by
    rw [Array.mapM_eq_mapM_toList]
    simp [h]
  have e2 : results fn tm = (do let vs ← fn.results.mapM (resRun tm); pure (if h : vs.size = 1 then vs[0] else .tuple vs)) := by
    unfold results
    congr 2
  rw [e2]
  simp only [Sem.run_bind, e, Result.andThen_ok, Sem.run_pure]

theorem resA_run {G : Gh} {σ : St} {a : Act} {w : World} (h : Mean nt G σ a w) {fn : Func} {x : PV} (hx : resA P σ fn.results.toList = some x) : ∃ v, (results fn a.tmps).run P w = .ok v w ∧ RV G w v x := by
  unfold resA at hx
  split at hx
  · rename_i r hr
    obtain ⟨v, k1, k2⟩ := resPV_run h hx
    have hres := results_eq (P := P) (fn := fn) (tm := a.tmps) (vs := [v]) (w := w) (by rw [hr, List.mapM_cons]; simp [k1])
    exact ⟨v, by simpa using hres, k2⟩
  · rename_i rs hne
    simp only [Option.map_eq_some_iff] at hx
    obtain ⟨xs, hx, rfl⟩ := hx
    obtain ⟨vs, k1, k2, k4, k3⟩ := resPVs_run h hx
    have hsz : ¬ vs.toArray.size = 1 := by
      intro e
      have : fn.results.toList.length = 1 := by simp at e; omega
      match hl : fn.results.toList, this with
      | [q], _ => exact hne q hl
    have hres := results_eq (P := P) k1
    rw [dif_neg hsz] at hres
    exact ⟨_, hres, .tup (by simpa using k2) (fun k u y hu hy => k3 k u y (by simpa using hu) hy)⟩

/-- A function as the abstract machine sees it. -/
structure FnIs (P : Program) (f : FuncId) (nt : Nat) (ac : ACode) (rs : List ResultVar) : Prop where
  ex : ∃ fn c, P.funcs[f]? = some fn ∧ fn.body = some c ∧ fn.ntmps = nt ∧ resolveCode P nt c = some ac.erase ∧ fn.results.toList = rs ∧ (fn.name == "runtime.NumGoroutine") = false

theorem FnIs.ok {f : FuncId} {ac : ACode} {rs : List ResultVar} (h : FnIs P f nt ac rs) : fnOk P f := by
  obtain ⟨fn, c, h1, h2, _, _, _, h3⟩ := h.ex
  exact ⟨fn, h1, h3, by rw [h2]; rfl⟩

end
end Go.Bm

/- The second abstract machine: functions: what is deferred, what is recovered. -/
namespace Go.Bm
open Go

/-- How a frame leaves. -/
def ModeR (G : Gh) (w : World) : Option PV → FrameMode → Prop
  | none, m => m = .returning
  | some p, m => ∃ v, m = .panicking [{ v := v, recovered := false }] ∧ RV G w v p

theorem ModeR.evo {G G' : Gh} {w w' : World} {u : Option PV} {m : FrameMode} (h : ModeR G w u m) (e : Evo G w G' w') : ModeR G' w' u m := by
  cases u with
  | none => exact h
  | some p => obtain ⟨v, h1, h2⟩ := h; exact ⟨v, h1, h2.evo e⟩

/-- How a deferred call ends: the caller leaves on so. -/
def EndD (G : Gh) (w : World) (K : Option PV → Mem → Lv → Prop) : Ending → FrameMode → World → Prop
  | .returned _, m, w' => ∃ G' u' μ' L', Rel G' μ' L' w' ∧ Evo G w G' w' ∧ ModeR G' w' u' (settle m) ∧ K u' μ' L'
  | _, _, _ => False

/-- A deferred call, on the way out: back to the caller, or up with a panic. -/
def ADCall (P : Program) (f : FuncId) (args : List PV) (u : Option PV) (μ : Mem) (L : Lv) (K : Option PV → Mem → Lv → Prop) : Prop :=
  fnOk P f ∧ ∀ (G : Gh) (w : World) (vals : Array Value) (m : FrameMode), vals.size = args.length → Pts G w vals args → Rel G μ L w → ModeR G w u m → CallsDIn (FW none) 0 P f vals m w (EndD G w K)

theorem ADCall.mono {P : Program} {f : FuncId} {args : List PV} {u : Option PV} {μ : Mem} {L : Lv} {K K' : Option PV → Mem → Lv → Prop} (hc : ADCall P f args u μ L K) (h : ∀ u μ L, K u μ L → K' u μ L) : ADCall P f args u μ L K' := by
  refine ⟨hc.1, fun G w vals m h1 h2 h3 h4 => (hc.2 G w vals m h1 h2 h3 h4).mono ?_⟩
  intro e m' w' he
  cases e with
  | returned v => obtain ⟨G', u', μ', L', q1, q2, q3, q4⟩ := he; exact ⟨G', u', μ', L', q1, q2, q3, h _ _ _ q4⟩
  | _ => exact he

section
variable {P : Program} {nt : Nat}

/-- What is deferred is done; then the function ends. -/
def LeaveA (P : Program) (t : Regs) (rs : List ResultVar) (K KP : KA) : List Dfr → Option PV → Mem → Lv → Prop
  | [], none, μ, L => ∃ v, resA P ⟨t, μ, L, []⟩ rs = some v ∧ K v μ L
  | [], some p, μ, L => KP p μ L
  | .coll k :: ds, u, μ, L => μ k = some .dq ∧ LeaveA P t rs K KP ds u (μ.del k) L
  | .call f args cap :: ds, u, μ, L => ADCall P f (args ++ cap) u μ L (LeaveA P t rs K KP ds)

/-- What a function's code is to have done when it ends. -/
def FQ (P : Program) (rs : List ResultVar) (K KP : KA) : AEx → St → Prop
  | .normal, σ | .ret, σ => LeaveA P σ.t rs K KP σ.df none σ.μ σ.L
  | .pan p, σ => match σ.df with
    | [] => KP p σ.μ σ.L
    | _ :: _ => ∀ t, LeaveA P t rs K KP σ.df (some p) σ.μ σ.L
  | .exit _, _ => False

theorem resA_df {σ σ' : St} (ht : σ'.t = σ.t) (hm : σ'.μ = σ.μ) (rs : List ResultVar) : resA P σ' rs = resA P σ rs := by
  have h1 : ∀ r, resPV P σ' r = resPV P σ r := by
    intro r; cases r <;> simp only [resPV, ht, hm]
  have h2 : ∀ rs, resPVs P σ' rs = resPVs P σ rs := by
    intro rs
    induction rs with
    | nil => rfl
    | cons r rs ih => simp only [resPVs, h1, ih]
  unfold resA
  split <;> simp only [h1, h2]

theorem leave_sound {fn : Func} {tm : Array Value} {G0 : Gh} {w0 : World} {t : Regs} {rs : List ResultVar} {K KP : KA} (hrs : fn.results.toList = rs) (hsz : tm.size = nt) :
    ∀ (ds : List Dfr) (xs : List Deferred) (u : Option PV) (m : FrameMode) (μ : Mem) (L : Lv) (G : Gh) (w : World), LeaveA P t rs K KP ds u μ L → DfrsR G w ds xs → FR G w t tm → Rel G μ L w → ModeR G w u m → Evo G0 w0 G w →
      LeavesInM (FW none) 0 P fn tm (EndR G0 w0 K KP) xs m w
  | [], [], u, m, μ, L, G, w, h, _, hf, hr, hm, hev => by
    cases u with
    | none =>
      simp only [ModeR] at hm
      subst hm
      obtain ⟨v, h1, h2⟩ := h
      obtain ⟨x, q1, q2⟩ := resA_run (P := P) (G := G) (σ := ⟨t, μ, L, []⟩) (a := { tmps := tm, defers := [] }) (w := w) (nt := nt) (fn := fn) ⟨hsz, trivial, hf, hr⟩ (by rw [hrs]; exact h1)
      exact ⟨x, q1, G, v, μ, L, q2, hr, hev, h2⟩
    | some p =>
      obtain ⟨v, rfl, hv⟩ := hm
      exact ⟨G, v, p, μ, L, rfl, hv, hr, hev, h⟩
  | [], _ :: _, u, m, μ, L, G, w, h, hd, hf, hr, hm, hev => hd.elim
  | _ :: _, [], u, m, μ, L, G, w, h, hd, hf, hr, hm, hev => hd.elim
  | .coll k :: ds, x :: xs, u, m, μ, L, G, w, h, hd, hf, hr, hm, hev => by
    obtain ⟨⟨b, s, d1, d2⟩, hd⟩ := hd
    obtain ⟨h1, h2⟩ := h
    obtain ⟨b', s', q1, q2, q3, q4⟩ := hr.obj _ _ h1
    rw [d1] at q1
    simp only [Option.some.injEq, Prod.mk.injEq] at q1
    obtain ⟨rfl, rfl⟩ := q1
    obtain ⟨o1, o2⟩ := hr.objPut (o := .deferred none) (μ' := μ.del k) d1 q3 q4 (fun j x hj hx => by simpa [Mem.del, hj] using hx) (fun x _ hx => by simp [Mem.del] at hx)
    refine ⟨?_, .inl ⟨b, _, d2, run_takeDeferred q2, leave_sound hrs hsz ds xs u m _ _ G _ h2 (DfrsR.evo o2 hd) (hf.evo o2) o1 (hm.evo o2) (hev.trans o2)⟩⟩
    intro e
    cases u with
    | none => rw [hm] at e; cases e
    | some p => obtain ⟨v, e2, _⟩ := hm; rw [e2] at e; cases e
  | .call f args cap :: ds, x :: xs, u, m, μ, L, G, w, h, hd, hf, hr, hm, hev => by
    obtain ⟨⟨cv, d1, d2, d3, d4, d5⟩, hd⟩ := hd
    obtain ⟨⟨fnc, e1, e2, e3⟩, hc⟩ := h
    refine ⟨?_, .inr ⟨fun hh => (by cases hh), _, _, f, x.args ++ cv, d1, ?_, fun _ _ => trivial, ?_⟩⟩
    · intro e
      cases u with
      | none => rw [hm] at e; cases e
      | some p => obtain ⟨v, e2, _⟩ := hm; rw [e2] at e; cases e
    · have h3' : ¬ fnc.body = none := by cases hb : fnc.body <;> simp_all
      have h2' : ¬ fnc.name = "runtime.NumGoroutine" := by simpa using e2
      rw [d1]
      simp [invoke, callFunc, e1, h2', h3']
    · refine (hc G w (x.args ++ cv) m (by simp [d2, d4]) ?_ hr hm).mono ?_
      · have := pts_concat (A := #[]) (as := []) (by simp) d4 (fun k u y hu => by simp at hu) d5 d3
        simpa using this
      · intro e m' w' he
        cases e with
        | returned v =>
          obtain ⟨G', u', μ', L', q1, q2, q3, q4⟩ := he
          exact leave_sound hrs hsz ds xs u' _ _ _ G' w' q4 (DfrsR.evo q2 hd) (hf.evo q2) q1 q3 (hev.trans q2)
        | panicked chain => exact he.elim
        | outgrown => exact he.elim

theorem acall_of_aw (hmix : P.follows .mixedOrders = true) {f : FuncId} {ac : ACode} {rs : List ResultVar} (hf : FnIs P f nt ac rs) {args : List PV} (hle : args.length ≤ nt) {μ : Mem} {L : Lv} {K KP : KA} (hw : AW P ac (FQ P rs K KP) ⟨args0 args, μ, L, []⟩) : ACall P f args μ L K KP := by
  refine ⟨hf.ok, ?_⟩
  obtain ⟨fn, c, h1, h2, h3, h4, h5, h6⟩ := hf.ex
  intro G w vals hv hp hr
  subst h3
  have hm : Mean fn.ntmps G ⟨args0 args, μ, L, []⟩ { tmps := vals ++ undefs (fn.ntmps - vals.size), defers := [] } w :=
    ⟨by simp [undefs]; omega, trivial, args0_FR hv hp, hr⟩
  have hwp := aw_sound (ro := none) hmix c h4 (.inl rfl) hw hm (Evo.refl G w)
  refine (callsIn_wide (n := 0)).1 (callsIn_of_wp_marks (F := FW none) h1 h2 trivial (wpIn_mono hwp ?_))
  intro e a' w' hh
  have fin : Holds fn.ntmps G w (fun σ => LeaveA P σ.t rs K KP σ.df none σ.μ σ.L) a' w' → LeavesInM (FW none) 0 P fn a'.tmps (EndR G w K KP) a'.defers .returning w' := by
    intro hh
    obtain ⟨σ', G', k1, k2, k3⟩ := hh
    exact leave_sound h5 k2.size _ _ _ _ _ _ G' w' k1 k2.df k2.fr k2.rel rfl k3
  cases e with
  | normal => exact fin hh
  | ret => exact fin hh
  | panic chain =>
    obtain ⟨σ', G', v, p, rfl, k1, k2, k3, k4⟩ := hh
    refine leave_sound (t := σ'.t) h5 k3.size σ'.df _ (some p) _ _ _ G' w' ?_ k3.df k3.fr k3.rel ⟨v, rfl, k2⟩ k4
    simp only [FQ] at k1
    split at k1
    · rename_i hd; rw [hd]; exact k1
    · exact k1 _
  | exit k => obtain ⟨σ', G', k1, _⟩ := hh; exact k1.elim
  | goto l => exact hh.elim
  | outgrown => exact hh.elim

theorem FQ_TI (rs : List ResultVar) (K KP : KA) : TI (fun p => FQ P rs K KP (.pan p)) := fun _ _ _ h => h

end
end Go.Bm

/- The second abstract machine: a function that recovers, entered as a deferred call. -/
namespace Go.Bm
open Go

section
variable {P : Program} {nt : Nat}

/-- A function whose first operation recovers. -/
structure FnIsR (P : Program) (f : FuncId) (nt : Nat) (d : Nat) (ac : ACode) (rs : List ResultVar) : Prop where
  ex : ∃ fn id o cc c, P.funcs[f]? = some fn ∧ fn.body = some (.seq (.region id #[o] false) c) ∧ o.op = .call cc ∧ cc.callee = .builtin .recover ∧ cc.args = #[] ∧ o.dst = some d ∧ o.guard = none ∧ d < nt ∧
    fn.ntmps = nt ∧ resolveCode P nt c = some ac.erase ∧ fn.results.toList = rs ∧ (fn.name == "runtime.NumGoroutine") = false

/-- What its code is to have done. -/
def FQR (P : Program) (rs : List ResultVar) (K : Mem → Lv → Prop) : AEx → St → Prop
  | .normal, σ | .ret, σ => σ.df = [] ∧ (∃ v, resA P σ rs = some v) ∧ K σ.μ σ.L
  | .pan _, _ => False
  | .exit _, _ => False

def recvd : Option PV → PV
  | none => .nilif
  | some p => p

theorem adcall_of_aw (hmix : P.follows .mixedOrders = true) {f : FuncId} {d : Nat} {ac : ACode} {rs : List ResultVar} (hf : FnIsR P f nt d ac rs) {args : List PV} (hle : args.length ≤ nt) {u : Option PV} {μ : Mem} {L : Lv} {K : Option PV → Mem → Lv → Prop}
    (hw : AW P ac (FQR P rs (K none)) ⟨upd (args0 args) d (recvd u), μ, L, []⟩) : ADCall P f args u μ L K := by
  obtain ⟨fn, id, o, cc, c, h1, h2, g1, g2, g2', g3, g4, g5, h3, h4, h5, h6⟩ := hf.ex
  refine ⟨⟨fn, h1, h6, by rw [h2]; rfl⟩, ?_⟩
  intro G w vals m hv hp hr hm
  subst h3
  refine callsDIn_of_wpSIn h1 h2 trivial ?_
  intro c0 cs hc0
  have hm0 : Mean fn.ntmps G ⟨args0 args, μ, L, []⟩ { tmps := vals ++ undefs (fn.ntmps - vals.size), defers := [] } w :=
    ⟨by simp [undefs]; omega, trivial, args0_FR hv hp, hr⟩
  have hex : ∀ a : Act, (execOp a.eval o).run P w = .ok .recover w := by
    intro a
    simp [execOp, g1, Go.resolve, g2, g2', invoke, builtin]
  have hwant : ∀ tm : Array Value, Region.wanted o (yielded #[o] tm) = true := by intro a; simp [Region.wanted, g4]
  have key : ∀ (v : Value) (cs' : List Frame) (u2 : FrameMode), cs' = { c0 with mode := u2 } :: cs → settle u2 = .returning → RV G w v (recvd u) →
      Exit.thenS (c.wpSIn (FW none) 0 P (bodyPostS P fn c0 cs (EndD G w K))) (bodyPostS P fn c0 cs (EndD G w K)) .normal (Act.put { tmps := vals ++ undefs (fn.ntmps - vals.size), defers := [] } o.dst v) cs' w := by
    intro v cs' u2 hcs hset hrv
    have hm1 := hm0.put (Evo.refl G w) hr (d := some d) (v := v) (x := recvd u) (fun n hn => by cases hn; exact g5) hrv
    rw [g3]
    simp only [Exit.thenS]
    refine wpSIn_of_wpIn rfl (wpIn_mono (aw_sound (ro := none) hmix c h4 (.inl rfl) hw hm1 (Evo.refl G w)) ?_)
    intro e a' w' hh
    have fin : Holds fn.ntmps G w (fun σ => σ.df = [] ∧ (∃ v, resA P σ rs = some v) ∧ K none σ.μ σ.L) a' w' → bodyPostS P fn c0 cs (EndD G w K) .ret a' cs' w' := by
      intro hh
      obtain ⟨σ', G', ⟨k0, ⟨x, k1⟩, k2⟩, k3, k4⟩ := hh
      obtain ⟨y, q1, q2⟩ := resA_run (P := P) k3 (fn := fn) (by rw [h5]; exact k1)
      refine ⟨?_, u2, hcs, y, q1, G', none, _, _, k3.rel, k4, hset, k2⟩
      have := k3.df
      rw [k0] at this
      cases hd : a'.defers with
      | nil => rfl
      | cons x xs => rw [hd] at this; exact this.elim
    cases e with
    | normal => exact fin hh
    | ret => exact fin hh
    | panic chain => obtain ⟨σ', G', v, p, _, k1, _⟩ := hh; exact k1.elim
    | exit k => obtain ⟨σ', G', k1, _⟩ := hh; exact k1.elim
    | goto l => exact hh.elim
    | outgrown => exact hh.elim
  refine wpSIn_seq (wpSIn_region ?_)
  show wpOpsSIn _ _ P #[o] _ [0] _ _ w
  simp only [wpOpsSIn, List.getElem?_toArray, List.getElem?_cons_zero, hwant, if_true, hex]
  refine ⟨fun _ _ => trivial, ?_⟩
  cases u with
  | none =>
    simp only [ModeR] at hm
    subst hm
    have hrec : recoverD (c0 :: cs) = none := by simp [recoverD, hc0]
    simp only [hrec]
    exact key _ _ .returning (by rw [← hc0]) rfl .nilif
  | some p =>
    obtain ⟨v, rfl, hvp⟩ := hm
    have hrec : recoverD (c0 :: cs) = some (v, { c0 with mode := .panicking [{ v := v, recovered := true }] } :: cs) := by simp [recoverD, hc0]
    simp only [hrec]
    exact key _ _ (.panicking [{ v := v, recovered := true }]) rfl rfl hvp

end
end Go.Bm

/- The second abstract machine: a round of a range over a function. -/
namespace Go.Bm
open Go

section
variable {P : Program}

theorem setPs_FR {G : Gh} {w : World} {nt : Nat} : ∀ (ps : List Nat) (vs : List Value) (xs : List PV) (t : Regs) (tm : Array Value), tm.size = nt → (∀ p ∈ ps, p < nt) → vs.length = ps.length → xs.length = ps.length →
    (∀ (k : Nat) u y, vs[k]? = some u → xs[k]? = some y → RV G w u y) → FR G w t tm →
    ((ps.zip vs).foldl (fun (tm : Array Value) (p : Nat × Value) => tm.setIfInBounds p.1 p.2) tm).size = nt ∧ FR G w (setPs t ps xs) ((ps.zip vs).foldl (fun (tm : Array Value) (p : Nat × Value) => tm.setIfInBounds p.1 p.2) tm)
  | [], [], [], t, tm, hs, _, _, _, _, hf => ⟨hs, hf⟩
  | p :: ps, v :: vs, x :: xs, t, tm, hs, hp, h1, h2, hr, hf => by
    simp only [List.zip_cons_cons, List.foldl_cons, setPs]
    exact setPs_FR ps vs xs _ _ (by simp [hs]) (fun q hq => hp q (by simp [hq])) (by simpa using h1) (by simpa using h2) (fun k u y hu hy => hr (k + 1) u y (by simpa using hu) (by simpa using hy))
      (hf.set (by rw [hs]; exact hp p (by simp)) (hr 0 v x (by simp) (by simp)))
  | [], _ :: _, _, _, _, _, _, h, _, _, _ => by simp at h
  | [], [], _ :: _, _, _, _, _, _, h, _, _ => by simp at h
  | _ :: _, [], _, _, _, _, _, h, _, _, _ => by simp at h
  | _ :: _, _ :: _, [], _, _, _, _, _, h, _, _ => by simp at h

/-- The body of the loop. -/
def YQ (i : Nat) (rec : LpRec) (K : KA) : AEx → St → Prop
  | .normal, σ => σ.μ i = some (.lp true rec) ∧ K (.bool true) (σ.μ.set i (.lp false rec)) σ.L
  | _, _ => False

/-- The assignments to the loop's variables, then the body. -/
def YA (P : Program) (i : Nat) (rec : LpRec) (b : ACode) (K : KA) : AEx → St → Prop
  | .normal, σ => σ.μ i = some (.lp false rec) ∧ AW P b (YQ i rec K) { σ with μ := σ.μ.set i (.lp true rec) }
  | _, _ => False

theorem ayield_of_aw (hmix : P.follows .mixedOrders = true) {i : Nat} {rec : LpRec} {a b : ACode} {xs : List PV} {μ : Mem} {L : Lv} {K : KA} (hi : μ i = some (.lp false rec)) (hps : rec.ps.length = xs.length) (hlt : ∀ p ∈ rec.ps, p < rec.nt)
    (ha : resolveCode P rec.nt rec.ca = some a.erase) (hb : resolveCode P rec.nt rec.cb = some b.erase) (na : noDefer rec.ca = true) (nb : noDefer rec.cb = true)
    (hw : AW P a (YA P i rec b K) ⟨setPs rec.t rec.ps xs, μ, L, []⟩) : AYield P i xs μ L K := by
  intro G w vals hv hp hr
  obtain ⟨bk, s, l, q1, q2, q3, q4, r1, r2, r3, r4, r5, r6, r7⟩ := hr.obj _ _ hi
  have hsz : l.params.size = rec.ps.length := by rw [← r5]; simp
  have hy := run_yield (P := P) (args := vals) q2 (by omega)
  refine ⟨bk, s, q1, l.fn, _, l.assign, l.body, hy, ?_⟩
  generalize htm : (l.params.zip vals).foldl (fun tmps (t, a) => tmps.setIfInBounds t a) l.tmps = tm
  have hfr : tm.size = rec.nt ∧ FR G w (setPs rec.t rec.ps xs) tm := by
    have := setPs_FR (G := G) (w := w) (nt := rec.nt) rec.ps vals.toList xs rec.t l.tmps r3 hlt (by simp; omega) hps.symm (fun k u y hu hy => hp k u y (by simpa using hu) hy) r4
    have e : tm = (rec.ps.zip vals.toList).foldl (fun (tm : Array Value) (p : Nat × Value) => tm.setIfInBounds p.1 p.2) l.tmps := by
      rw [← htm, ← r5, ← Array.foldl_toList, Array.toList_zip]
    rw [e]; exact this
  have hm : Mean rec.nt G ⟨setPs rec.t rec.ps xs, μ, L, []⟩ { tmps := tm, defers := [] } w := ⟨hfr.1, trivial, hfr.2, hr⟩
  refine roundIn_of_wpIn trivial ?_
  rw [r6, r7]
  refine wpIn_mono (aw_sound (ro := some bk) hmix rec.ca ha (.inr na) hw hm (Evo.refl G w)) ?_
  intro e a1 w1 hh
  cases e with
  | normal =>
    obtain ⟨σ1, G1, ⟨k0, k1⟩, k2, k3⟩ := hh
    obtain ⟨b1, s1, l1, p1, p2, p3, p4, p5⟩ := k2.rel.obj _ _ k0
    rw [k3.loc _ _ q1] at p1
    simp only [Option.some.injEq, Prod.mk.injEq] at p1
    obtain ⟨rfl, rfl⟩ := p1
    obtain ⟨o1, o2⟩ := k2.rel.objPut (o := .loop { l1 with state := .busy }) (μ' := σ1.μ.set i (.lp true rec)) (k3.loc _ _ q1) p3 p4 (fun j x hj hx => by simpa [Mem.set, hj] using hx)
      (fun x hev hx => by
        simp [Mem.set] at hx; subst hx
        refine ⟨_, _, _, k3.loc _ _ q1, World.putObj_heap_same (k2.rel.owlt _ (by rw [p3]; simp)), p3, p4, rfl, p5.2.1, p5.2.2.1, p5.2.2.2.1.evo hev, p5.2.2.2.2⟩)
    refine ⟨_, run_beginRound p2 (by rw [p5.1]; rfl), ?_⟩
    have hm1 : Mean rec.nt G1 { σ1 with μ := σ1.μ.set i (.lp true rec) } a1 (w1.putObj bk (.loop { l1 with state := .busy })) := ⟨k2.size, k2.df.evo o2, k2.fr.evo o2, o1⟩
    refine wpIn_mono (aw_sound (ro := some bk) hmix rec.cb hb (.inr nb) k1 hm1 (k3.trans o2)) ?_
    intro e a2 w2 hh
    cases e with
    | normal =>
      obtain ⟨σ2, G2, ⟨m0, m1⟩, m2, m3⟩ := hh
      obtain ⟨b2, s2, l2, t1, t2, t3, t4, t5⟩ := m2.rel.obj _ _ m0
      rw [m3.loc _ _ q1] at t1
      simp only [Option.some.injEq, Prod.mk.injEq] at t1
      obtain ⟨rfl, rfl⟩ := t1
      obtain ⟨u1, u2⟩ := m2.rel.objPut (o := .loop { l2 with state := .ready, pending := none }) (μ' := σ2.μ.set i (.lp false rec)) (m3.loc _ _ q1) t3 t4 (fun j x hj hx => by simpa [Mem.set, hj] using hx)
        (fun x hev hx => by
          simp [Mem.set] at hx; subst hx
          refine ⟨_, _, _, m3.loc _ _ q1, World.putObj_heap_same (m2.rel.owlt _ (by rw [t3]; simp)), t3, t4, rfl, rfl, t5.2.2.1, t5.2.2.2.1.evo hev, t5.2.2.2.2⟩)
      refine ⟨_, _, run_endRound none t2, G2, .bool true, _, _, .bool true, u1, m3.trans u2, m1⟩
    | ret => obtain ⟨_, _, k1, _⟩ := hh; exact k1.elim
    | exit k => obtain ⟨_, _, k1, _⟩ := hh; exact k1.elim
    | panic chain => obtain ⟨_, _, _, _, _, k1, _⟩ := hh; exact k1.elim
    | goto l => exact hh.elim
    | outgrown => exact hh.elim
  | ret => obtain ⟨_, _, k1, _⟩ := hh; exact k1.elim
  | exit k => obtain ⟨_, _, k1, _⟩ := hh; exact k1.elim
  | panic chain => obtain ⟨_, _, _, _, _, k1, _⟩ := hh; exact k1.elim
  | goto l => exact hh.elim
  | outgrown => exact hh.elim

end
end Go.Bm

/- The second abstract machine: steps of the mind alone. -/
namespace Go.Bm
open Go

/-- Whatever means x means y. -/
def Wk (x y : PV) : Prop := ∀ (G : Gh) (w : World) (v : Value), RV G w v x → RV G w v y

theorem Wk.rfl' (x : PV) : Wk x x := fun _ _ _ h => h
theorem Wk.junk (x : PV) : Wk x .junk := fun _ _ v _ => .junk v
theorem Wk.no {t : Tok} {sz : Nat} {xs : List PV} : Wk (.sl t sz xs) (.sl .no sz xs) := by
  intro G w v h
  cases h with
  | sl h1 h2 h3 hl h4 h5 => exact .sl h1 trivial h3 hl h4 h5
  | slE h => exact .slE trivial
theorem Wk.emptyv {sz : Nat} (i off : Nat) : Wk (.sl .full sz []) (.slv i off 0 sz) := by
  intro G w v h
  cases h with
  | sl h1 h2 h3 hl h4 h5 => simp only [TokR, List.length_nil] at h2; subst h2; exact .slvE
  | slE h => simp only [TokR] at h; subst h; exact .slvE

theorem GhoS.refl {σ : St} {S : St → Prop} (h : S σ) : GhoS σ S := fun _ G a w hm => ⟨σ, G, h, hm, Evo.refl G w⟩

theorem GhoS.bind {σ : St} {S S' : St → Prop} (h : GhoS σ S) (h' : ∀ σ', S σ' → GhoS σ' S') : GhoS σ S' := by
  intro nt G a w hm
  obtain ⟨σ1, G1, k1, k2, k3⟩ := h nt G a w hm
  obtain ⟨σ2, G2, q1, q2, q3⟩ := h' σ1 k1 nt G1 a w k2
  exact ⟨σ2, G2, q1, q2, k3.trans q3⟩

theorem GhoS.mono {σ : St} {S S' : St → Prop} (h : GhoS σ S) (h' : ∀ σ', S σ' → S' σ') : GhoS σ S' := h.bind fun σ' hs => .refl (h' σ' hs)

/-- Slots may be known less well. -/
theorem GhoS.slots {σ : St} {t' : Regs} {S : St → Prop} (h : ∀ n, Wk (σ.t n) (t' n)) (hS : S { σ with t := t' }) : GhoS σ S :=
  fun _ G a w hm => ⟨{ σ with t := t' }, G, hS, ⟨hm.size, hm.df, fun n => h n G w _ (hm.fr n), hm.rel⟩, Evo.refl G w⟩

/-- Objects and tokens may be forgotten. -/
theorem GhoS.forget {σ : St} {μ' : Mem} {L' : Lv} {S : St → Prop} (hm : ∀ i o, μ' i = some o → σ.μ i = some o) (hl : ∀ a, L' a → σ.L a) (hS : S { σ with μ := μ', L := L' }) : GhoS σ S :=
  fun _ G a w h => ⟨{ σ with μ := μ', L := L' }, G, hS, ⟨h.size, h.df, h.fr, h.rel.forget hm hl⟩, Evo.refl G w⟩

/-- An object of no cells comes to mind. -/
theorem GhoS.empty {σ : St} {S : St → Prop} (hS : ∀ i, Fresh σ.μ σ.L i → S { σ with μ := σ.μ.set i (.cells []) }) : GhoS σ S := by
  intro nt G a w h
  obtain ⟨q1, q2, q3, q4⟩ := h.rel.nx G.nx (Nat.le_refl _)
  have hev : Evo G w { G with nx := G.nx + 1 } w := ⟨Nat.le_succ _, fun _ _ h => h, fun i hi h => h, fun _ _ h => h, fun _ _ h => h, fun _ _ _ => rfl, fun _ _ h => ⟨rfl, h⟩, Nat.le_refl _, rfl, rfl, rfl, fun _ _ _ _ h => h, fun _ _ h => h, fun h => h⟩
  refine ⟨_, { G with nx := G.nx + 1 }, hS G.nx ⟨q3, q4⟩, ⟨h.size, h.df.evo hev, h.fr.evo hev, ?_⟩, hev⟩
  refine h.rel.carry hev ?_ (fun a ha => .inl ⟨ha, fun b p x _ ho => ⟨rfl, ho, fun _ _ h => h⟩⟩) h.rel.fzlt h.rel.owlt ?_
  · intro i o hi
    simp only [Mem.set] at hi
    split at hi
    · rename_i e; subst e; cases hi; exact .inr (.inl ⟨rfl, q1⟩)
    · exact .inl ⟨hi, fun b s _ ho => ⟨rfl, ho, fun _ h => h⟩⟩
  · intro i hi
    have hi' : G.nx + 1 ≤ i := hi
    obtain ⟨p1, p2, p3, p4⟩ := h.rel.nx i (by omega)
    refine ⟨p1, p2, ?_, p4⟩
    simp only [Mem.set]; rw [if_neg (by omega)]; exact p3

/-- What an object holds is frozen: the slots that view it whole have it by value. -/
theorem GhoS.freeze {σ : St} {j sz : Nat} {xs : List PV} {t' : Regs} {S : St → Prop} (hj : σ.μ j = some (.cells (flats xs))) (hx : ∀ x ∈ xs, x.flat.length = sz)
    (ht : ∀ n, Wk (σ.t n) (t' n) ∨ (σ.t n = .slv j 0 xs.length sz ∧ t' n = .sl .no sz xs)) (hS : S { σ with t := t', μ := σ.μ.del j }) : GhoS σ S := by
  intro nt G a w h
  rcases h.rel.obj _ _ hj with ⟨e, hl⟩ | ⟨b, arr, el, q1, q2, q3, q4, q5, q6, q7⟩
  · refine ⟨_, G, hS, ⟨h.size, h.df, ?_, h.rel.forget (fun i o hi => by simp only [Mem.del] at hi; split at hi <;> simp_all) (fun _ h => h)⟩, Evo.refl G w⟩
    intro n
    rcases ht n with h1 | ⟨h1, h2⟩
    · exact h1 G w _ (h.fr n)
    · have := h.fr n
      rw [h1] at this
      show RV G w _ (t' n)
      rw [h2]
      generalize a.tmps.getD n undef = v at this ⊢
      cases xs with
      | nil => cases this with
        | slv k1 k2 k3 => rw [hl] at k1; cases k1
        | slvE => exact .slE trivial
      | cons x xs =>
        simp only [List.length_cons] at this
        cases this with
        | slv k1 k2 k3 => rw [hl] at k1; cases k1
  · let G' : Gh := { G with fz := fun b' k => G.fz b' k ∨ (b' = b ∧ k < (flats xs).length), ow := fun b' => if b' = b then none else G.ow b' }
    have hb : b < w.heap.size := h.rel.owlt b (by rw [q4]; simp)
    have hev : Evo G w G' w := ⟨Nat.le_refl _, fun _ _ h => h, fun i hi h => h, fun _ _ h => h, fun _ _ h => .inl h, fun _ _ _ => rfl, fun b' _ ho => ⟨rfl, by show (if b' = b then none else G.ow b') = none; split <;> simp_all⟩, Nat.le_refl _, rfl, rfl, rfl, fun b' k _ ho hf => hf.resolve_right (fun q => by rw [q.1, q4] at ho; cases ho), fun _ _ h => h, fun h => h⟩
    have hrel : Rel G' (σ.μ.del j) σ.L w := by
      refine h.rel.carry hev ?_ ?_ ?_ ?_ ?_
      · intro i o hi
        simp only [Mem.del] at hi
        split at hi
        · cases hi
        · rename_i hne
          refine .inl ⟨hi, fun b' s _ ho => ?_⟩
          have hbb : b' ≠ b := fun e => by subst e; rw [q4] at ho; cases ho; exact hne rfl
          refine ⟨rfl, by show (if b' = b then none else G.ow b') = _; rw [if_neg hbb]; exact ho, ?_⟩
          intro k hk
          rcases hk with hk | ⟨e, _⟩
          · exact hk
          · exact absurd e hbb
      · intro i hi
        refine .inl ⟨hi, fun b' p x _ ho => ?_⟩
        have hbb : b' ≠ b := fun e => by subst e; rw [q4] at ho; cases ho
        refine ⟨rfl, by show (if b' = b then none else G.ow b') = _; rw [if_neg hbb]; exact ho, ?_⟩
        intro k _ hk
        rcases hk with hk | ⟨e, _⟩
        · exact hk
        · exact absurd e hbb
      · intro b' k hk
        rcases hk with hk | ⟨e, _⟩
        · exact h.rel.fzlt _ _ hk
        · rw [e]; exact hb
      · intro b' hb'
        have hb2 : (if b' = b then none else G.ow b') ≠ none := hb'
        split at hb2
        · simp at hb2
        · exact h.rel.owlt _ hb2
      · intro i hi
        obtain ⟨p1, p2, p3, p4⟩ := h.rel.nx i hi
        refine ⟨p1, p2, ?_, p4⟩
        simp only [Mem.del]; split <;> simp_all
    refine ⟨_, G', hS, ⟨h.size, h.df.evo hev, ?_, hrel⟩, hev⟩
    intro n
    rcases ht n with h1 | ⟨h1, h2⟩
    · exact h1 G' w _ ((h.fr n).evo hev)
    · have hv := h.fr n
      rw [h1] at hv
      show RV G' w _ (t' n)
      rw [h2]
      generalize a.tmps.getD n undef = v at hv ⊢
      have hxx : ∀ x ∈ xs, x.flat.length = sz ∧ Leaves x.flat := by
        intro x hm
        refine ⟨hx x hm, fun y hy => q6 y ?_⟩
        unfold flats
        exact List.mem_flatMap.2 ⟨x, hm, hy⟩
      have key : ∀ b' s' cap, G.loc j = some (b', s') → xs.length ≤ cap → RV G' w (.slice (some ⟨b', 0, none⟩) xs.length cap) (.sl .no sz xs) := by
        intro b' s' cap k1 k2
        rw [q1] at k1
        simp only [Option.some.injEq, Prod.mk.injEq] at k1
        obtain ⟨rfl, rfl⟩ := k1
        exact RV.of_cells q2 hxx k2 q3 trivial (fun k hk => .inr ⟨rfl, by rw [flats_length hx]; exact hk⟩) (q7.evo hev)
      generalize hn : xs.length = len at hv
      cases hv with
      | slv k1 k2 k3 => subst hn; exact key _ _ _ k1 k2
      | slvE =>
        have : xs = [] := List.eq_nil_of_length_eq_zero hn
        subst this
        exact .slE trivial

/-- What an object holds is frozen: pointers into it have it by value. -/
theorem GhoS.freezeP {σ : St} {j : Nat} {cs : List PV} {t' : Regs} {S : St → Prop} (hj : σ.μ j = some (.cells cs))
    (ht : ∀ n, Wk (σ.t n) (t' n) ∨ ∃ off, σ.t n = .ptr j off ∧ t' n = .fpp (cs.drop off)) (hS : S { σ with t := t', μ := σ.μ.del j }) : GhoS σ S := by
  intro nt G a w h
  rcases h.rel.obj _ _ hj with ⟨e, hl⟩ | ⟨b, arr, el, q1, q2, q3, q4, q5, q6, q7⟩
  · refine ⟨_, G, hS, ⟨h.size, h.df, ?_, h.rel.forget (fun i o hi => by simp only [Mem.del] at hi; split at hi <;> simp_all) (fun _ h => h)⟩, Evo.refl G w⟩
    intro n
    rcases ht n with h1 | ⟨off, h1, h2⟩
    · exact h1 G w _ (h.fr n)
    · have := h.fr n
      rw [h1] at this
      show RV G w _ (t' n)
      rw [h2]
      generalize a.tmps.getD n undef = v at this ⊢
      cases this with
      | ptr _ k1 => rw [hl] at k1; cases k1
  · let G' : Gh := { G with fz := fun b' k => G.fz b' k ∨ (b' = b ∧ k < cs.length), ow := fun b' => if b' = b then none else G.ow b' }
    have hb : b < w.heap.size := h.rel.owlt b (by rw [q4]; simp)
    have hev : Evo G w G' w := ⟨Nat.le_refl _, fun _ _ h => h, fun i hi h => h, fun _ _ h => h, fun _ _ h => .inl h, fun _ _ _ => rfl, fun b' _ ho => ⟨rfl, by show (if b' = b then none else G.ow b') = none; split <;> simp_all⟩, Nat.le_refl _, rfl, rfl, rfl, fun b' k _ ho hf => hf.resolve_right (fun q => by rw [q.1, q4] at ho; cases ho), fun _ _ h => h, fun h => h⟩
    have hrel : Rel G' (σ.μ.del j) σ.L w := by
      refine h.rel.carry hev ?_ ?_ ?_ ?_ ?_
      · intro i o hi
        simp only [Mem.del] at hi
        split at hi
        · cases hi
        · rename_i hne
          refine .inl ⟨hi, fun b' s _ ho => ?_⟩
          have hbb : b' ≠ b := fun e => by subst e; rw [q4] at ho; cases ho; exact hne rfl
          refine ⟨rfl, by show (if b' = b then none else G.ow b') = _; rw [if_neg hbb]; exact ho, ?_⟩
          intro k hk
          rcases hk with hk | ⟨e, _⟩
          · exact hk
          · exact absurd e hbb
      · intro i hi
        refine .inl ⟨hi, fun b' p x _ ho => ?_⟩
        have hbb : b' ≠ b := fun e => by subst e; rw [q4] at ho; cases ho
        refine ⟨rfl, by show (if b' = b then none else G.ow b') = _; rw [if_neg hbb]; exact ho, ?_⟩
        intro k _ hk
        rcases hk with hk | ⟨e, _⟩
        · exact hk
        · exact absurd e hbb
      · intro b' k hk
        rcases hk with hk | ⟨e, _⟩
        · exact h.rel.fzlt _ _ hk
        · rw [e]; exact hb
      · intro b' hb'
        have hb2 : (if b' = b then none else G.ow b') ≠ none := hb'
        split at hb2
        · simp at hb2
        · exact h.rel.owlt _ hb2
      · intro i hi
        obtain ⟨p1, p2, p3, p4⟩ := h.rel.nx i hi
        refine ⟨p1, p2, ?_, p4⟩
        simp only [Mem.del]; split <;> simp_all
    refine ⟨_, G', hS, ⟨h.size, h.df.evo hev, ?_, hrel⟩, hev⟩
    intro n
    rcases ht n with h1 | ⟨off, h1, h2⟩
    · exact h1 G' w _ ((h.fr n).evo hev)
    · have hv := h.fr n
      rw [h1] at hv
      show RV G' w _ (t' n)
      rw [h2]
      generalize a.tmps.getD n undef = v at hv ⊢
      cases hv with
      | ptr _ k1 =>
        rw [q1] at k1
        simp only [Option.some.injEq, Prod.mk.injEq] at k1
        obtain ⟨rfl, rfl⟩ := k1
        have hcell : ∀ k, k < cs.length → w.cell? ⟨b, k, none⟩ = arr[k]? := by
          intro k hk
          simp [World.cell?, q2]
        refine .fpp (fun y hy => q6 y (List.mem_of_mem_drop hy)) (fun k hk => ?_) ?_
        · simp only [List.length_drop] at hk
          refine ⟨.inr ⟨rfl, by omega⟩, ?_⟩
          rw [hcell _ (by omega), Array.getElem?_eq_getElem (by omega)]; rfl
        · intro k y u hy hu
          rw [List.getElem?_drop] at hy
          rw [hcell _ (List.getElem?_eq_some_iff.1 hy).1] at hu
          exact (q7 _ u y hu hy).evo hev

/-- What has just been boxed is frozen. -/
theorem gho_box {t t' : Regs} {μ : Mem} {L : Lv} {df : List Dfr} {q : Nat} {cs : List PV} {S : St → Prop} (hq : Fresh μ L q)
    (ht : ∀ n, t' n = t n ∨ ∃ off, t n = .ptr q off ∧ t' n = .fpp (cs.drop off)) (hS : S ⟨t', μ, L, df⟩) : GhoS ⟨t, μ.set q (.cells cs), L, df⟩ S := by
  refine GhoS.freezeP (j := q) (cs := cs) (t' := t') (by simp [Mem.set]) (fun n => ?_) ?_
  · rcases ht n with h | h
    · rw [h]; exact .inl (Wk.rfl' _)
    · exact .inr h
  · have : (μ.set q (.cells cs)).del q = μ := by
      funext i
      simp only [Mem.del, Mem.set]
      split
      · rename_i e; rw [e, hq.1]
      · rfl
    rw [this]; exact hS

end Go.Bm

/- The second abstract machine: how code is walked. -/
namespace Go.Bm
open Go

/-- The code of the ranges over functions in some code. -/
def rfAll : Code → List (Code × Code)
  | .seq x y => rfAll x ++ rfAll y
  | .cond _ x y => rfAll x ++ rfAll y
  | .block _ x => rfAll x
  | .loop x => rfAll x
  | .rangeFunc _ _ x y => (x, y) :: (rfAll x ++ rfAll y)
  | _ => []

def rfCodes (f : Func) (n : Nat) : Code × Code := match f.body with
  | some c => (rfAll c).getD n (.skip, .skip)
  | none => (.skip, .skip)

section
variable {P : Program}

def SeqQ (P : Program) (y : ACode) (Q : AEx → St → Prop) : AEx → St → Prop := fun e σ => match e with
  | .normal => AW P y Q σ
  | e => Q e σ

def GseqQ (P : Program) (y : ACode) (Q : AEx → St → Prop) : AEx → St → Prop := fun e σ => match e with
  | .normal => ∃ S, GhoS σ S ∧ ∀ σ', S σ' → AW P y Q σ'
  | e => Q e σ

def BlkQ (id : Nat) (Q : AEx → St → Prop) : AEx → St → Prop := fun e σ => match e with
  | .exit k => if k = id then Q .normal σ else Q (.exit k) σ
  | e => Q e σ

def LoopQ (I : Nat → St → Prop) (n : Nat) (Q : AEx → St → Prop) : AEx → St → Prop := fun e σ => match e with
  | .normal => ∃ m, m < n ∧ I m σ
  | e => Q e σ

def PanQ (Q : AEx → St → Prop) : PV → St → Prop := fun p => Q (.pan p)

def NrmQ (Q : AEx → St → Prop) : St → Prop := fun σ => Q .normal σ

theorem aw_skip {Q : AEx → St → Prop} {σ : St} : AW P .skip Q σ = Q .normal σ := propext Iff.rfl
theorem aw_exit {id : Nat} {Q : AEx → St → Prop} {σ : St} : AW P (.exit id) Q σ = Q (.exit id) σ := propext Iff.rfl
theorem aw_ret {Q : AEx → St → Prop} {σ : St} : AW P .ret Q σ = Q .ret σ := propext Iff.rfl
theorem aw_reg {ops : List ROp} {Q : AEx → St → Prop} {σ : St} : AW P (.reg false ops) Q σ = runA P ops (NrmQ Q) (PanQ Q) σ := propext Iff.rfl
theorem aw_seq {x y : ACode} {Q : AEx → St → Prop} {σ : St} : AW P (.seq x y) Q σ = AW P x (SeqQ P y Q) σ := propext Iff.rfl
theorem aw_gseq {x y : ACode} {Q : AEx → St → Prop} {σ : St} : AW P (.gseq x y) Q σ = AW P x (GseqQ P y Q) σ := propext Iff.rfl
theorem aw_block {id : Nat} {x : ACode} {Q : AEx → St → Prop} {σ : St} : AW P (.block id x) Q σ = AW P x (BlkQ id Q) σ := propext Iff.rfl

theorem seqQ_n {y : ACode} {Q : AEx → St → Prop} {σ : St} : SeqQ P y Q .normal σ = AW P y Q σ := propext Iff.rfl
theorem seqQ_e {y : ACode} {Q : AEx → St → Prop} {σ : St} {k : Nat} : SeqQ P y Q (.exit k) σ = Q (.exit k) σ := propext Iff.rfl
theorem seqQ_r {y : ACode} {Q : AEx → St → Prop} {σ : St} : SeqQ P y Q .ret σ = Q .ret σ := propext Iff.rfl
theorem seqQ_p {y : ACode} {Q : AEx → St → Prop} {σ : St} {p : PV} : SeqQ P y Q (.pan p) σ = Q (.pan p) σ := propext Iff.rfl
theorem gseqQ_n {y : ACode} {Q : AEx → St → Prop} {σ : St} : GseqQ P y Q .normal σ = ∃ S, GhoS σ S ∧ ∀ σ', S σ' → AW P y Q σ' := propext Iff.rfl
theorem gseqQ_e {y : ACode} {Q : AEx → St → Prop} {σ : St} {k : Nat} : GseqQ P y Q (.exit k) σ = Q (.exit k) σ := propext Iff.rfl
theorem gseqQ_r {y : ACode} {Q : AEx → St → Prop} {σ : St} : GseqQ P y Q .ret σ = Q .ret σ := propext Iff.rfl
theorem gseqQ_p {y : ACode} {Q : AEx → St → Prop} {σ : St} {p : PV} : GseqQ P y Q (.pan p) σ = Q (.pan p) σ := propext Iff.rfl
theorem blkQ_n {id : Nat} {Q : AEx → St → Prop} {σ : St} : BlkQ id Q .normal σ = Q .normal σ := propext Iff.rfl
theorem blkQ_e {id k : Nat} {Q : AEx → St → Prop} {σ : St} : BlkQ id Q (.exit k) σ = if k = id then Q .normal σ else Q (.exit k) σ := propext Iff.rfl
theorem blkQ_r {id : Nat} {Q : AEx → St → Prop} {σ : St} : BlkQ id Q .ret σ = Q .ret σ := propext Iff.rfl
theorem blkQ_p {id : Nat} {Q : AEx → St → Prop} {σ : St} {p : PV} : BlkQ id Q (.pan p) σ = Q (.pan p) σ := propext Iff.rfl
theorem loopQ_n {I : Nat → St → Prop} {n : Nat} {Q : AEx → St → Prop} {σ : St} : LoopQ I n Q .normal σ = ∃ m, m < n ∧ I m σ := propext Iff.rfl
theorem loopQ_e {I : Nat → St → Prop} {n k : Nat} {Q : AEx → St → Prop} {σ : St} : LoopQ I n Q (.exit k) σ = Q (.exit k) σ := propext Iff.rfl
theorem loopQ_r {I : Nat → St → Prop} {n : Nat} {Q : AEx → St → Prop} {σ : St} : LoopQ I n Q .ret σ = Q .ret σ := propext Iff.rfl
theorem loopQ_p {I : Nat → St → Prop} {n : Nat} {Q : AEx → St → Prop} {σ : St} {p : PV} : LoopQ I n Q (.pan p) σ = Q (.pan p) σ := propext Iff.rfl
theorem nrmQ_a {Q : AEx → St → Prop} {σ : St} : NrmQ Q σ = Q .normal σ := propext Iff.rfl
theorem panQ_a {Q : AEx → St → Prop} {σ : St} {p : PV} : PanQ Q p σ = Q (.pan p) σ := propext Iff.rfl

theorem aw_cond {c : AX} {x y : ACode} {Q : AEx → St → Prop} {σ : St} {b : Bool} (h : rd σ.t c = .bool b) : AW P (.cond c x y) Q σ = ((b = true → AW P x Q σ) ∧ (b = false → AW P y Q σ)) := by
  simp only [AW, h]

theorem aw_cond_t {c : AX} {x y : ACode} {Q : AEx → St → Prop} {t : Regs} {μ : Mem} {L : Lv} {df : List Dfr} (h : rd t c = .bool true) : AW P (.cond c x y) Q ⟨t, μ, L, df⟩ = AW P x Q ⟨t, μ, L, df⟩ := by
  rw [aw_cond h]; simp
theorem aw_cond_f {c : AX} {x y : ACode} {Q : AEx → St → Prop} {t : Regs} {μ : Mem} {L : Lv} {df : List Dfr} (h : rd t c = .bool false) : AW P (.cond c x y) Q ⟨t, μ, L, df⟩ = AW P y Q ⟨t, μ, L, df⟩ := by
  rw [aw_cond h]; simp

theorem aw_loop (I : Nat → St → Prop) (n : Nat) {x : ACode} {Q : AEx → St → Prop} {σ : St} (h0 : I n σ) (h : ∀ n σ', I n σ' → AW P x (LoopQ I n Q) σ') : AW P (.loop x) Q σ := ⟨I, ⟨n, h0⟩, h⟩

theorem aw_draw {ops : List ROp} {Q : AEx → St → Prop} {σ : St} (h1 : okRegion [] ops = true) (h2 : TI (PanQ Q)) (h3 : runA P ops (NrmQ Q) (PanQ Q) σ) : AW P (.reg true ops) Q σ := ⟨h1, h2, h3⟩

theorem run_nil {K : St → Prop} {KP : PV → St → Prop} {σ : St} : runA P [] K KP σ = K σ := propext Iff.rfl
theorem run_cons {r : ROp} {rs : List ROp} {K : St → Prop} {KP : PV → St → Prop} {σ : St} : runA P (r :: rs) K KP σ = stepA P r (runA P rs K KP) KP σ := propext Iff.rfl

theorem put_some {t : Regs} {μ : Mem} {L : Lv} {df : List Dfr} {d : Nat} {v : PV} : St.put ⟨t, μ, L, df⟩ (some d) v = ⟨upd t d v, μ, L, df⟩ := Eq.trans rfl rfl
theorem put_none {σ : St} {v : PV} : St.put σ none v = σ := Eq.trans rfl rfl

theorem upd_app {t : Regs} {d n : Nat} {v : PV} : upd t d v n = if n = d then v else t n := by
  unfold upd
  by_cases h : n = d
  · subst h; simp
  · rw [beq_no h]; simp [h]

theorem args0_nil {n : Nat} : args0 [] n = .junk := by simp [args0]
theorem args0_zero {x : PV} {xs : List PV} : args0 (x :: xs) 0 = x := by simp [args0]
theorem args0_succ {x : PV} {xs : List PV} {n : Nat} : args0 (x :: xs) (n + 1) = args0 xs n := by simp [args0]

/-- A round of a counting loop. -/
def ForQ (J : Nat → Regs → Mem → Lv → List Dfr → Prop) (b b1 i d k : Nat) (Q : AEx → St → Prop) : AEx → St → Prop := fun e σ => match e with
  | .normal => σ.t i = .int .i64 k ∧ J (k + 1) (upd (upd σ.t d (.int .i64 (k + 1 : Nat))) i (.int .i64 (k + 1 : Nat))) σ.μ σ.L σ.df
  | .exit x => if x = b1 then σ.t i = .int .i64 k ∧ J (k + 1) (upd (upd σ.t d (.int .i64 (k + 1 : Nat))) i (.int .i64 (k + 1 : Nat))) σ.μ σ.L σ.df else if x = b then Q .normal σ else Q (.exit x) σ
  | e => Q e σ

theorem forQ_n {J : Nat → Regs → Mem → Lv → List Dfr → Prop} {b b1 i d k : Nat} {Q : AEx → St → Prop} {t : Regs} {μ : Mem} {L : Lv} {df : List Dfr} :
    ForQ J b b1 i d k Q .normal ⟨t, μ, L, df⟩ = (t i = .int .i64 k ∧ J (k + 1) (upd (upd t d (.int .i64 (k + 1 : Nat))) i (.int .i64 (k + 1 : Nat))) μ L df) := propext Iff.rfl
theorem forQ_e {J : Nat → Regs → Mem → Lv → List Dfr → Prop} {b b1 i d k x : Nat} {Q : AEx → St → Prop} {t : Regs} {μ : Mem} {L : Lv} {df : List Dfr} :
    ForQ J b b1 i d k Q (.exit x) ⟨t, μ, L, df⟩ = if x = b1 then (t i = .int .i64 k ∧ J (k + 1) (upd (upd t d (.int .i64 (k + 1 : Nat))) i (.int .i64 (k + 1 : Nat))) μ L df) else if x = b then Q .normal ⟨t, μ, L, df⟩ else Q (.exit x) ⟨t, μ, L, df⟩ := propext Iff.rfl
theorem forQ_r {J : Nat → Regs → Mem → Lv → List Dfr → Prop} {b b1 i d k : Nat} {Q : AEx → St → Prop} {σ : St} : ForQ J b b1 i d k Q .ret σ = Q .ret σ := propext Iff.rfl
theorem forQ_p {J : Nat → Regs → Mem → Lv → List Dfr → Prop} {b b1 i d k : Nat} {Q : AEx → St → Prop} {σ : St} {p : PV} : ForQ J b b1 i d k Q (.pan p) σ = Q (.pan p) σ := propext Iff.rfl

/-- A counting loop. -/
theorem aw_for {b b1 c i d : Nat} {X : AX} {p1 p2 p3 : List Nat} {body : ACode} {Q : AEx → St → Prop} {t : Regs} {μ : Mem} {L : Lv} {df : List Dfr} (n : Nat) (J : Nat → Regs → Mem → Lv → List Dfr → Prop) (hn : n < 4611686018427387904)
    (hJ : ∀ k t μ L df, J k t μ L df → t i = .int .i64 k ∧ rd t X = .int .i64 n)
    (h0 : J 0 t μ L df) (hend : ∀ t μ L df, J n t μ L df → Q .normal ⟨upd t c (.bool false), μ, L, df⟩)
    (hbody : ∀ k t μ L df, k < n → J k t μ L df → AW P body (ForQ J b b1 i d k Q) ⟨upd t c (.bool true), μ, L, df⟩) (hbb : b ≠ b1) :
    AW P (.block b (.loop (.seq (.reg false [⟨some c, none, .bin .lss (.t i) X, p1⟩]) (.seq (.cond (.t c) .skip (.exit b)) (.seq (.block b1 body) (.reg false [⟨some d, none, .bin .add (.t i) (.k (.int .i64 1)), p2⟩, ⟨some i, none, .mv (.t d), p3⟩])))))) Q ⟨t, μ, L, df⟩ := by
  rw [aw_block]
  refine aw_loop (fun m σ => ∃ k, m = n - k ∧ k ≤ n ∧ J k σ.t σ.μ σ.L σ.df) n ⟨0, rfl, Nat.zero_le _, h0⟩ ?_
  rintro m ⟨t, μ, L, df⟩ ⟨k, rfl, hk, hj⟩
  simp only at hj
  obtain ⟨g1, g2⟩ := hJ _ _ _ _ _ hj
  have hlt : (((k : Nat) : Int) < ((n : Nat) : Int)) = (k < n) := propext Int.ofNat_lt
  have hr : rd t (.t i) = .int .i64 k := g1
  have hc : rd (upd t c (.bool (decide (k < n)))) (.t c) = .bool (decide (k < n)) := by simp [rd, upd_app]
  simp only [aw_seq, aw_reg, run_cons, run_nil, stepA, guardA, opM, kernP, hr, g2, binop, intOp, if_true, put_some, nrmQ_a, seqQ_n, hlt]
  rw [aw_cond hc]
  refine ⟨fun ht => ?_, fun hf => ?_⟩
  · have hkn : k < n := by simpa using ht
    simp only [aw_skip, seqQ_n, aw_seq, aw_block]
    have hd : decide (k < n) = true := by simpa using hkn
    rw [hd]
    refine AW_mono ?_ ?_ (hbody k t μ L df hkn hj)
    · intro e σ' hq
      have fin : (σ'.t i = .int .i64 k ∧ J (k + 1) (upd (upd σ'.t d (.int .i64 (k + 1 : Nat))) i (.int .i64 (k + 1 : Nat))) σ'.μ σ'.L σ'.df) →
          AW P (.reg false [⟨some d, none, .bin .add (.t i) (.k (.int .i64 1)), p2⟩, ⟨some i, none, .mv (.t d), p3⟩]) (LoopQ (fun m σ => ∃ k, m = n - k ∧ k ≤ n ∧ J k σ.t σ.μ σ.L σ.df) (n - k) (BlkQ b Q)) σ' := by
        rintro ⟨f1, f2⟩
        obtain ⟨t', μ', L', df'⟩ := σ'
        have hr' : rd t' (.t i) = .int .i64 k := f1
        have hw : IntKind.wrap .i64 ((k : Int) + 1) = ((k + 1 : Nat) : Int) := by rw [IntWalk.i64_in _ (by omega)]; rfl
        have hdd : rd (upd t' d (.int .i64 ((k + 1 : Nat) : Int))) (.t d) = .int .i64 ((k + 1 : Nat) : Int) := by simp [rd, upd_app]
        have hk1 : rd t' (.k (.int .i64 1)) = .int .i64 1 := rfl
        simp only [aw_reg, run_cons, run_nil, stepA, guardA, opM, kernP, hr', hk1, binop, intOp, if_true, put_some, nrmQ_a, loopQ_n, hw, hdd]
        exact ⟨n - (k + 1), by omega, k + 1, rfl, hkn, f2⟩
      cases e with
      | normal => exact fin hq
      | exit x =>
        simp only [ForQ] at hq
        simp only [BlkQ]
        split at hq
        · rename_i hx; rw [if_pos hx]; exact fin hq
        · rename_i hx
          rw [if_neg hx]
          simp only [SeqQ, LoopQ, BlkQ]
          exact hq
      | ret => exact hq
      | pan p => exact hq
    · exact fun h => h
  · have hkn : ¬ k < n := by simpa using hf
    have e : k = n := by omega
    subst e
    have hd : decide (k < k) = false := by simp
    simp only [aw_exit, seqQ_e, loopQ_e, blkQ_e, if_true, hd]
    exact hend _ _ _ _ hj

/-- One may append in place. -/
def Liv (L : Lv) (t : Tok) : Prop := t = .full ∨ ∃ a, t = .tk a ∧ L a

def optK (o : Option PV) (μ : Mem) (L : Lv) (K : KA) : Prop := match o with
  | some v => K v μ L
  | none => False

theorem optK_some {v : PV} {μ : Mem} {L : Lv} {K : KA} : optK (some v) μ L K = K v μ L := propext Iff.rfl

section
variable {k : IntKind} {x y : Int}
theorem intOp_add : intOp .add k x y = some (.int k (k.wrap (x + y))) := Eq.trans rfl rfl
theorem intOp_sub : intOp .sub k x y = some (.int k (k.wrap (x - y))) := Eq.trans rfl rfl
theorem intOp_mul : intOp .mul k x y = some (.int k (k.wrap (x * y))) := Eq.trans rfl rfl
theorem intOp_quo (h : y ≠ 0) : intOp .quo k x y = some (.int k (k.wrap (x.tdiv y))) := by simp [intOp, h]
theorem intOp_rem (h : y ≠ 0) : intOp .rem k x y = some (.int k (x.tmod y)) := by simp [intOp, h]
theorem intOp_and : intOp .and k x y = some (.int k (bitsOp .and k x y)) := Eq.trans rfl rfl
theorem intOp_or : intOp .or k x y = some (.int k (bitsOp .or k x y)) := Eq.trans rfl rfl
theorem intOp_xor : intOp .xor k x y = some (.int k (bitsOp .xor k x y)) := Eq.trans rfl rfl
theorem intOp_eql : intOp .eql k x y = some (.bool (x == y)) := Eq.trans rfl rfl
theorem intOp_neq : intOp .neq k x y = some (.bool (x != y)) := Eq.trans rfl rfl
theorem intOp_lss : intOp .lss k x y = some (.bool (x < y)) := Eq.trans rfl rfl
theorem intOp_leq : intOp .leq k x y = some (.bool (x ≤ y)) := Eq.trans rfl rfl
theorem intOp_gtr : intOp .gtr k x y = some (.bool (x > y)) := Eq.trans rfl rfl
theorem intOp_geq : intOp .geq k x y = some (.bool (x ≥ y)) := Eq.trans rfl rfl
theorem mulO_ex : ∃ f : IntKind → Int → Int → Int, ∀ k x y, f k x y = k.wrap (x * y) := ⟨_, fun _ _ _ => rfl⟩
/-- A product that the kernel does not look into. -/
noncomputable def mulO : IntKind → Int → Int → Int := Classical.choose mulO_ex
theorem mulO_spec (k : IntKind) (x y : Int) : mulO k x y = k.wrap (x * y) := Classical.choose_spec mulO_ex k x y
theorem intOp_mulO : intOp .mul k x y = some (.int k (mulO k x y)) := by rw [mulO_spec]; rfl
end

/-- What is loaded. -/
def cellsV (g : Option Nat) (o : Option AObj) (off : Nat) : Option PV := match o with
  | some (.cells cs) => partV g cs off
  | _ => none
def loadV (g : Option Nat) (v : PV) (μ : Mem) : Option PV := match v with
  | .ptr i off => cellsV g (μ i) off
  | .fpp cs => partV g cs 0
  | _ => none
theorem cellsV_c {g : Option Nat} {cs : List PV} {off : Nat} : cellsV g (some (.cells cs)) off = partV g cs off := Eq.trans rfl rfl
theorem loadV_p {g : Option Nat} {i off : Nat} {μ : Mem} : loadV g (.ptr i off) μ = cellsV g (μ i) off := Eq.trans rfl rfl
theorem loadV_f {g : Option Nat} {cs : List PV} {μ : Mem} : loadV g (.fpp cs) μ = partV g cs 0 := Eq.trans rfl rfl
theorem partV_n {cs : List PV} {off : Nat} : partV none cs off = cs[off]? := Eq.trans rfl rfl
theorem partV_s {cs : List PV} {n off : Nat} : partV (some n) cs off = if off + n ≤ cs.length then some (.agg ((cs.drop off).take n)) else none := Eq.trans rfl rfl

/-- Cells with others written over. -/
def spl (cs : List PV) (off n : Nat) (vs : List PV) : List PV := cs.take off ++ vs ++ cs.drop (off + n)
/-- What is stored. -/
def stoC (n i off : Nat) (o : Option AObj) (v : PV) (μ : Mem) (L : Lv) (K : KA) : Prop := match o with
  | some (.cells cs) => if v.fits n = true ∧ off + n ≤ cs.length then K (.tup []) (μ.set i (.cells (spl cs off n v.flat))) L else False
  | _ => False
def stoK (n : Nat) (p v : PV) (μ : Mem) (L : Lv) (K : KA) : Prop := match p with
  | .ptr i off => stoC n i off (μ i) v μ L K
  | _ => False
theorem stoC_c {n i off : Nat} {cs : List PV} {v : PV} {μ : Mem} {L : Lv} {K : KA} : stoC n i off (some (.cells cs)) v μ L K = if v.fits n = true ∧ off + n ≤ cs.length then K (.tup []) (μ.set i (.cells (spl cs off n v.flat))) L else False := propext Iff.rfl
theorem stoK_p {n i off : Nat} {v : PV} {μ : Mem} {L : Lv} {K : KA} : stoK n (.ptr i off) v μ L K = stoC n i off (μ i) v μ L K := propext Iff.rfl
def panK (v : PV) (t : Regs) (μ : Mem) (L : Lv) (df : List Dfr) (KP : PV → St → Prop) : Prop := match v with
  | .iface ty v => KP (.iface ty v) ⟨t, μ, L, df⟩
  | _ => False
def dfrK (f : PV) (args : List PV) (t : Regs) (μ : Mem) (L : Lv) (df : List Dfr) (d : Option Nat) (K : St → Prop) : Prop := match f with
  | .fn fid first cap => K (St.put ⟨t, μ, L, .call fid (first ++ args) cap :: df⟩ d (.tup []))
  | _ => False
theorem set_same {μ : Mem} {i : Nat} {o : AObj} : (μ.set i o) i = some o := by simp [Mem.set]
theorem set_app {μ : Mem} {i j : Nat} {o : AObj} : (μ.set i o) j = if j = i then some o else μ j := Eq.trans rfl rfl

def PutK (K : St → Prop) (t : Regs) (df : List Dfr) (d : Option Nat) : KA := fun v μ L => K (St.put ⟨t, μ, L, df⟩ d v)
def PutP (KP : PV → St → Prop) (t : Regs) (df : List Dfr) : KA := fun p μ L => KP p ⟨t, μ, L, df⟩

section
variable {t : Regs} {μ : Mem} {L : Lv} {K : KA}

/-- What an operation does in a frame. -/
def actA (P : Program) (ao : AOp) (t : Regs) (μ : Mem) (L : Lv) (df : List Dfr) (d : Option Nat) (K : St → Prop) (KP : PV → St → Prop) : Prop :=
  match ao with
  | .call f args => callA P (rd t f) (rds t args) μ L (PutK K t df d) (PutP KP t df)
  | .pan x => match rd t x with
    | .iface ty v => KP (.iface ty v) ⟨t, μ, L, df⟩
    | _ => False
  | .dfr f args => match rd t f with
    | .fn fid first cap => K (St.put ⟨t, μ, L, .call fid (first ++ rds t args) cap :: df⟩ d (.tup []))
    | _ => False
  | ao => opM ao t μ L (PutK K t df d)

section
variable {P : Program} {df : List Dfr} {d : Option Nat} {KS : St → Prop} {KP : PV → St → Prop}
theorem act_mv (x : AX) : actA P (.mv x) t μ L df d KS KP = optK (kernP (.mv x) t) μ L (PutK KS t df d) := propext Iff.rfl
theorem act_pick (c a b : AX) : actA P (.pick c a b) t μ L df d KS KP = optK (kernP (.pick c a b) t) μ L (PutK KS t df d) := propext Iff.rfl
theorem act_build (z : List PV) (ps : List (Nat × Nat × AX)) : actA P (.build z ps) t μ L df d KS KP = optK (kernP (.build z ps) t) μ L (PutK KS t df d) := propext Iff.rfl
theorem act_bslice (g : Bool) (sz : Nat) (z : List PV) (l : Nat) (ps : List (Nat × AX)) : actA P (.bslice g sz z l ps) t μ L df d KS KP = optK (kernP (.bslice g sz z l ps) t) μ L (PutK KS t df d) := propext Iff.rfl
theorem act_nilck (x : AX) : actA P (.nilck x) t μ L df d KS KP = optK (kernP (.nilck x) t) μ L (PutK KS t df d) := propext Iff.rfl
theorem act_bin (op : BinOp) (x y : AX) : actA P (.bin op x y) t μ L df d KS KP = optK (kernP (.bin op x y) t) μ L (PutK KS t df d) := propext Iff.rfl
theorem act_binb (n : Bool) (x y : AX) : actA P (.binb n x y) t μ L df d KS KP = optK (kernP (.binb n x y) t) μ L (PutK KS t df d) := propext Iff.rfl
theorem act_isnil (kd : Nat) (n : Bool) (x : AX) : actA P (.isnil kd n x) t μ L df d KS KP = optK (kernP (.isnil kd n x) t) μ L (PutK KS t df d) := propext Iff.rfl
theorem act_eqs (n : Bool) (ks : List EK) (x y : AX) : actA P (.eqs n ks x y) t μ L df d KS KP = optK (kernP (.eqs n ks x y) t) μ L (PutK KS t df d) := propext Iff.rfl
theorem act_un (op : UnOp) (x : AX) : actA P (.un op x) t μ L df d KS KP = optK (kernP (.un op x) t) μ L (PutK KS t df d) := propext Iff.rfl
theorem act_conv (k : IntKind) (x : AX) : actA P (.conv k x) t μ L df d KS KP = optK (kernP (.conv k x) t) μ L (PutK KS t df d) := propext Iff.rfl
theorem act_mkif (ty : Nat) (x : AX) : actA P (.mkif ty x) t μ L df d KS KP = optK (kernP (.mkif ty x) t) μ L (PutK KS t df d) := propext Iff.rfl
theorem act_mkfn (f : Nat) (a b : List AX) : actA P (.mkfn f a b) t μ L df d KS KP = optK (kernP (.mkfn f a b) t) μ L (PutK KS t df d) := propext Iff.rfl
theorem act_slice (sz : Nat) (x : AX) (lo hi mx : Option AX) : actA P (.slice sz x lo hi mx) t μ L df d KS KP = optK (kernP (.slice sz x lo hi mx) t) μ L (PutK KS t df d) := propext Iff.rfl
theorem act_sstr (x : AX) (lo hi : Option AX) : actA P (.sstr x lo hi) t μ L df d KS KP = optK (kernP (.sstr x lo hi) t) μ L (PutK KS t df d) := propext Iff.rfl
theorem act_faddr (x : AX) (o : Nat) : actA P (.faddr x o) t μ L df d KS KP = optK (kernP (.faddr x o) t) μ L (PutK KS t df d) := propext Iff.rfl
theorem act_iaddr (sz : Nat) (x i : AX) : actA P (.iaddr sz x i) t μ L df d KS KP = optK (kernP (.iaddr sz x i) t) μ L (PutK KS t df d) := propext Iff.rfl
theorem act_fld (x : AX) (o : Nat) (g : Option Nat) : actA P (.fld x o g) t μ L df d KS KP = optK (kernP (.fld x o g) t) μ L (PutK KS t df d) := propext Iff.rfl
theorem act_idx (n sz : Nat) (g : Option Nat) (x i : AX) : actA P (.idx n sz g x i) t μ L df d KS KP = optK (kernP (.idx n sz g x i) t) μ L (PutK KS t df d) := propext Iff.rfl
theorem act_sidx (x i : AX) : actA P (.sidx x i) t μ L df d KS KP = optK (kernP (.sidx x i) t) μ L (PutK KS t df d) := propext Iff.rfl
theorem act_extr (x : AX) (i : Nat) : actA P (.extr x i) t μ L df d KS KP = optK (kernP (.extr x i) t) μ L (PutK KS t df d) := propext Iff.rfl
theorem act_tass (ty : Nat) (z : PV) (x : AX) : actA P (.tass ty z x) t μ L df d KS KP = optK (kernP (.tass ty z x) t) μ L (PutK KS t df d) := propext Iff.rfl
theorem act_len (x : AX) : actA P (.len x) t μ L df d KS KP = optK (kernP (.len x) t) μ L (PutK KS t df d) := propext Iff.rfl
theorem act_slen (x : AX) : actA P (.slen x) t μ L df d KS KP = optK (kernP (.slen x) t) μ L (PutK KS t df d) := propext Iff.rfl
theorem act_mnx (m : Bool) (x y : AX) : actA P (.mnx m x y) t μ L df d KS KP = optK (kernP (.mnx m x y) t) μ L (PutK KS t df d) := propext Iff.rfl
theorem act_fbox (n : Nat) (x : AX) : actA P (.fbox n x) t μ L df d KS KP = optK (kernP (.fbox n x) t) μ L (PutK KS t df d) := propext Iff.rfl
theorem act_mkmap : actA P .mkmap t μ L df d KS KP = ∀ i, Fresh μ L i → PutK KS t df d (.mp i) (μ.set i (.map [])) L := propext Iff.rfl
theorem act_mlen (x : AX) : actA P (.mlen x) t μ L df d KS KP = opM (.mlen x) t μ L (PutK KS t df d) := propext Iff.rfl
theorem act_rangem (x : AX) : actA P (.rangem x) t μ L df d KS KP = opM (.rangem x) t μ L (PutK KS t df d) := propext Iff.rfl
theorem act_nextm (x : AX) : actA P (.nextm x) t μ L df d KS KP = opM (.nextm x) t μ L (PutK KS t df d) := propext Iff.rfl
theorem act_alloc {z : List PV} : actA P (.alloc z) t μ L df d KS KP = ∀ i, Fresh μ L i → PutK KS t df d (.ptr i 0) (μ.set i (.cells z)) L := propext Iff.rfl
theorem act_box (n : Nat) (x : AX) : actA P (.box n x) t μ L df d KS KP = if (rd t x).fits n = true then ∀ i, Fresh μ L i → PutK KS t df d (.ptr i 0) (μ.set i (.cells (rd t x).flat)) L else False := by
  show opM (.box n x) t μ L _ = _
  by_cases h : (rd t x).fits n = true
  · simp only [opM, h, if_true, true_and]
  · rw [if_neg h]
    simp only [opM, eq_iff_iff, iff_false]
    exact fun hh => h hh.1
theorem load_sp {g : Option Nat} {v : PV} {K : KA} : (match v with
    | .ptr i off => ∃ cs v, μ i = some (.cells cs) ∧ partV g cs off = some v ∧ K v μ L
    | .fpp cs => ∃ v, partV g cs 0 = some v ∧ K v μ L
    | _ => False) ↔ optK (loadV g v μ) μ L K := by
  cases v with
  | ptr i off =>
    simp only [loadV]
    cases hm : μ i with
    | none => simp [cellsV, optK]
    | some o =>
      cases o with
      | cells cs =>
        simp only [cellsV]
        cases hp : partV g cs off with
        | none => simp [hp, optK]
        | some u => simp [hp, optK]
      | _ => simp [cellsV, optK]
  | fpp cs =>
    simp only [loadV]
    cases hp : partV g cs 0 with
    | none => simp [optK]
    | some u => simp [optK]
  | _ => simp [loadV, optK]
theorem act_load (g : Option Nat) (x : AX) : actA P (.load g x) t μ L df d KS KP = optK (loadV g (rd t x) μ) μ L (PutK KS t df d) := propext load_sp
theorem sto_sp {n : Nat} {p v : PV} {K : KA} : (v.fits n = true ∧ match p with
    | .ptr i off => ∃ cs, μ i = some (.cells cs) ∧ off + n ≤ cs.length ∧ K (.tup []) (μ.set i (.cells (cs.take off ++ v.flat ++ cs.drop (off + n)))) L
    | _ => False) ↔ stoK n p v μ L K := by
  cases p with
  | ptr i off =>
    simp only [stoK]
    cases hm : μ i with
    | none => simp [stoC]
    | some o =>
      cases o with
      | cells cs =>
        simp only [stoC, spl]
        constructor
        · rintro ⟨h0, cs', h1, h2, h3⟩
          cases h1
          rw [if_pos ⟨h0, h2⟩]; exact h3
        · intro h
          split at h
          · rename_i hh; exact ⟨hh.1, cs, rfl, hh.2, h⟩
          · exact h.elim
      | _ => simp [stoC]
  | _ => simp [stoK]
theorem act_store (n : Nat) (x y : AX) : actA P (.store n x y) t μ L df d KS KP = stoK n (rd t x) (rd t y) μ L (PutK KS t df d) := propext sto_sp
theorem act_isnils (n : Bool) (x : AX) : actA P (.isnils n x) t μ L df d KS KP = opM (.isnils n x) t μ L (PutK KS t df d) := propext Iff.rfl
theorem act_b2s (x : AX) : actA P (.b2s x) t μ L df d KS KP = opM (.b2s x) t μ L (PutK KS t df d) := propext Iff.rfl
theorem act_mkslice (g : Bool) (sz bytes : Nat) (z : List PV) (l c : AX) : actA P (.mkslice g sz bytes z l c) t μ L df d KS KP = opM (.mkslice g sz bytes z l c) t μ L (PutK KS t df d) := propext Iff.rfl
theorem act_append (sz bytes : Nat) (x y : AX) : actA P (.append sz bytes x y) t μ L df d KS KP = opM (.append sz bytes x y) t μ L (PutK KS t df d) := propext Iff.rfl
theorem act_call (f : AX) (args : List AX) : actA P (.call f args) t μ L df d KS KP = callA P (rd t f) (rds t args) μ L (PutK KS t df d) (PutP KP t df) := propext Iff.rfl
theorem act_pan (x : AX) : actA P (.pan x) t μ L df d KS KP = panK (rd t x) t μ L df KP := propext Iff.rfl
theorem act_dfr (f : AX) (args : List AX) : actA P (.dfr f args) t μ L df d KS KP = dfrK (rd t f) (rds t args) t μ L df d KS := propext Iff.rfl
theorem panK_i {ty : Nat} {v : PV} : panK (.iface ty v) t μ L df KP = KP (.iface ty v) ⟨t, μ, L, df⟩ := propext Iff.rfl
theorem dfrK_f {fid : Nat} {first args cap : List PV} : dfrK (.fn fid first cap) args t μ L df d KS = KS (St.put ⟨t, μ, L, .call fid (first ++ args) cap :: df⟩ d (.tup [])) := propext Iff.rfl
theorem callA_fn {fid : Nat} {first args cap : List PV} {K KP : KA} : callA P (.fn fid first cap) args μ L K KP = ACall P fid (first ++ args ++ cap) μ L K KP := propext Iff.rfl
theorem callA_yld {i : Nat} {args : List PV} {K KP : KA} : callA P (.yld i) args μ L K KP = AYield P i args μ L K := propext Iff.rfl

theorem step_g0 {ao : AOp} {pre : List Nat} : stepA P ⟨d, none, ao, pre⟩ KS KP ⟨t, μ, L, df⟩ = actA P ao t μ L df d KS KP := by cases ao <;> exact propext Iff.rfl
theorem step_gt {ao : AOp} {pre : List Nat} {n : Nat} {b : Bool} (h : t n = .bool b) : stepA P ⟨d, some (some n, b), ao, pre⟩ KS KP ⟨t, μ, L, df⟩ = actA P ao t μ L df d KS KP := by
  simp only [stepA, guardA, h, beq_self_eq_true]
  cases ao <;> rfl
theorem step_gf {ao : AOp} {pre : List Nat} {n : Nat} {b : Bool} (h : t n = .bool !b) : stepA P ⟨d, some (some n, b), ao, pre⟩ KS KP ⟨t, μ, L, df⟩ = KS (St.put ⟨t, μ, L, df⟩ d (.tup [])) := by
  simp only [stepA, guardA, h]
  cases b <;> rfl
theorem step_gu {ao : AOp} {pre : List Nat} {n : Nat} {b : Bool} (h : t n = .tup []) : stepA P ⟨d, some (some n, b), ao, pre⟩ KS KP ⟨t, μ, L, df⟩ = KS (St.put ⟨t, μ, L, df⟩ d (.tup [])) := by
  simp only [stepA, guardA, h]

/-- In a chosen order: what is loaded is frozen. -/
def fppv : PV → Prop
  | .fpp _ => True
  | _ => False
theorem fppv_f {cs : List PV} : fppv (.fpp cs) = True := propext Iff.rfl
def frzA : AOp → Regs → Prop
  | .load _ x, t => fppv (rd t x)
  | _, _ => True
def stepF (P : Program) (r : ROp) (K : St → Prop) (KP : PV → St → Prop) (σ : St) : Prop := (guardA σ.t r.guard = some true → frzA r.ao σ.t) ∧ stepA P r K KP σ
def runF (P : Program) : List ROp → (St → Prop) → (PV → St → Prop) → St → Prop
  | [], K, _, σ => K σ
  | r :: rs, K, KP, σ => stepF P r (runF P rs K KP) KP σ
theorem runF_nil {K : St → Prop} {KP : PV → St → Prop} {σ : St} : runF P [] K KP σ = K σ := propext Iff.rfl
theorem runF_cons {r : ROp} {rs : List ROp} {K : St → Prop} {KP : PV → St → Prop} {σ : St} : runF P (r :: rs) K KP σ = stepF P r (runF P rs K KP) KP σ := propext Iff.rfl
theorem stepF_V {r : ROp} {K : St → Prop} {KP : PV → St → Prop} {σ : St} (h : stepF P r K KP σ) : stepV P (fun _ => False) r K KP σ := by
  refine ⟨fun hg => ?_, stepA_mono (fun _ hh => ⟨.inr fun _ hf => hf.elim, hh⟩) (fun _ _ h => h) h.2⟩
  have h1 := h.1 hg
  cases hao : r.ao
  case load g x =>
    rw [hao] at h1
    simp only [frzA] at h1
    simp only [watA]
    cases hr : rd σ.t x <;> rw [hr] at h1 <;> first | trivial | exact h1.elim
  all_goals trivial
theorem stepV_mono {W : Nat → Prop} {r : ROp} {K K' : St → Prop} {KP : PV → St → Prop} {σ : St} (h : ∀ σ, K σ → K' σ) (hk : stepV P W r K KP σ) : stepV P W r K' KP σ :=
  ⟨hk.1, stepA_mono (fun _ hh => ⟨hh.1, h _ hh.2⟩) (fun _ _ h => h) hk.2⟩
theorem runF_V {KP : PV → St → Prop} : ∀ {rs : List ROp} {K : St → Prop} {σ : St}, runF P rs K KP σ → runV P (fun _ => False) rs K KP σ
  | [], _, _, h => h
  | _ :: _, _, _, h => stepV_mono (fun _ hh => runF_V hh) (stepF_V h)
theorem aw_drawF {ord : List Nat} {ops : List ROp} {Q : AEx → St → Prop} {σ : St} (h1 : okOrdP ord ops = true) (h2 : TI (PanQ Q)) (h3 : runF P ops (NrmQ Q) (PanQ Q) σ) : AW P (.regp ord ops) Q σ := ⟨h1, h2, _, runF_V h3⟩
theorem stepF_g0 {ao : AOp} {pre : List Nat} : stepF P ⟨d, none, ao, pre⟩ KS KP ⟨t, μ, L, df⟩ = (frzA ao t ∧ actA P ao t μ L df d KS KP) := by
  simp only [stepF, guardA, forall_const, step_g0]
theorem stepF_gt {ao : AOp} {pre : List Nat} {n : Nat} {b : Bool} (h : t n = .bool b) : stepF P ⟨d, some (some n, b), ao, pre⟩ KS KP ⟨t, μ, L, df⟩ = (frzA ao t ∧ actA P ao t μ L df d KS KP) := by
  rw [stepF, step_gt h]
  simp [guardA, h]
theorem stepF_gf {ao : AOp} {pre : List Nat} {n : Nat} {b : Bool} (h : t n = .bool !b) : stepF P ⟨d, some (some n, b), ao, pre⟩ KS KP ⟨t, μ, L, df⟩ = KS (St.put ⟨t, μ, L, df⟩ d (.tup [])) := by
  rw [stepF, step_gf h]
  simp [guardA, h]
theorem stepF_gu {ao : AOp} {pre : List Nat} {n : Nat} {b : Bool} (h : t n = .tup []) : stepF P ⟨d, some (some n, b), ao, pre⟩ KS KP ⟨t, μ, L, df⟩ = KS (St.put ⟨t, μ, L, df⟩ d (.tup [])) := by
  rw [stepF, step_gu h]
  simp [guardA, h]
theorem aw_drawV {W : Nat → Prop} {ord : List Nat} {ops : List ROp} {Q : AEx → St → Prop} {σ : St} (h1 : okOrdP ord ops = true) (h2 : TI (PanQ Q)) (h3 : runV P W ops (NrmQ Q) (PanQ Q) σ) : AW P (.regp ord ops) Q σ := ⟨h1, h2, W, h3⟩
theorem runV_nil {W : Nat → Prop} {K : St → Prop} {KP : PV → St → Prop} {σ : St} : runV P W [] K KP σ = K σ := propext Iff.rfl
theorem runV_cons {W : Nat → Prop} {r : ROp} {rs : List ROp} {K : St → Prop} {KP : PV → St → Prop} {σ : St} : runV P W (r :: rs) K KP σ = stepV P W r (runV P W rs K KP) KP σ := propext Iff.rfl
/-- What is asked behind an operation where objects are watched. -/
def StK (W : Nat → Prop) (ao : AOp) (μ : Mem) (K : St → Prop) : St → Prop := fun σ' => StayR ⟨none, none, ao, []⟩ W μ σ'.μ ∧ K σ'
theorem stepV_g0 {W : Nat → Prop} {ao : AOp} {pre : List Nat} : stepV P W ⟨d, none, ao, pre⟩ KS KP ⟨t, μ, L, df⟩ = (watA W ao t ∧ actA P ao t μ L df d (StK W ao μ KS) KP) := by
  simp only [stepV, guardA, forall_const, step_g0]
  rfl
theorem stK_a {W : Nat → Prop} {ao : AOp} {t' : Regs} {μ' : Mem} {L' : Lv} {df' : List Dfr} : StK W ao μ KS ⟨t', μ', L', df'⟩ = (StayR ⟨none, none, ao, []⟩ W μ μ' ∧ KS ⟨t', μ', L', df'⟩) := propext Iff.rfl
theorem stayR_same {W : Nat → Prop} {r : ROp} : StayR r W μ μ = True := eq_true (.inr fun _ _ _ => rfl)
theorem stayR_store {W : Nat → Prop} {μ' : Mem} {n : Nat} {x y : AX} : StayR ⟨none, none, .store n x y, []⟩ W μ μ' = True := eq_true (.inl rfl)
def watV (W : Nat → Prop) : PV → Prop
  | .fpp _ => True
  | .ptr i _ => W i
  | _ => False
theorem watA_load {W : Nat → Prop} {g : Option Nat} {x : AX} : watA W (.load g x) t = watV W (rd t x) := by
  simp only [watA]
  cases rd t x <;> rfl
theorem watV_f {W : Nat → Prop} {cs : List PV} : watV W (.fpp cs) = True := propext Iff.rfl
theorem watV_p {W : Nat → Prop} {i off : Nat} : watV W (.ptr i off) = W i := propext Iff.rfl
theorem frz_load {g : Option Nat} {x : AX} : frzA (.load g x) t = fppv (rd t x) := propext Iff.rfl
theorem frz_mv {a0 : AX} : frzA (.mv a0) t = True := propext Iff.rfl
theorem frz_pick {a0 : AX} {a1 : AX} {a2 : AX} : frzA (.pick a0 a1 a2) t = True := propext Iff.rfl
theorem frz_alloc {a0 : List PV} : frzA (.alloc a0) t = True := propext Iff.rfl
theorem frz_box {a0 : Nat} {a1 : AX} : frzA (.box a0 a1) t = True := propext Iff.rfl
theorem frz_fbox {a0 : Nat} {a1 : AX} : frzA (.fbox a0 a1) t = True := propext Iff.rfl
theorem frz_build {a0 : List PV} {a1 : List (Nat × Nat × AX)} : frzA (.build a0 a1) t = True := propext Iff.rfl
theorem frz_bslice {a0 : Bool} {a1 : Nat} {a2 : List PV} {a3 : Nat} {a4 : List (Nat × AX)} : frzA (.bslice a0 a1 a2 a3 a4) t = True := propext Iff.rfl
theorem frz_store {a0 : Nat} {a1 : AX} {a2 : AX} : frzA (.store a0 a1 a2) t = True := propext Iff.rfl
theorem frz_nilck {a0 : AX} : frzA (.nilck a0) t = True := propext Iff.rfl
theorem frz_bin {a0 : BinOp} {a1 : AX} {a2 : AX} : frzA (.bin a0 a1 a2) t = True := propext Iff.rfl
theorem frz_binb {a0 : Bool} {a1 : AX} {a2 : AX} : frzA (.binb a0 a1 a2) t = True := propext Iff.rfl
theorem frz_isnil {a0 : Nat} {a1 : Bool} {a2 : AX} : frzA (.isnil a0 a1 a2) t = True := propext Iff.rfl
theorem frz_isnils {a0 : Bool} {a1 : AX} : frzA (.isnils a0 a1) t = True := propext Iff.rfl
theorem frz_eqs {a0 : Bool} {a1 : List EK} {a2 : AX} {a3 : AX} : frzA (.eqs a0 a1 a2 a3) t = True := propext Iff.rfl
theorem frz_un {a0 : UnOp} {a1 : AX} : frzA (.un a0 a1) t = True := propext Iff.rfl
theorem frz_conv {a0 : IntKind} {a1 : AX} : frzA (.conv a0 a1) t = True := propext Iff.rfl
theorem frz_b2s {a0 : AX} : frzA (.b2s a0) t = True := propext Iff.rfl
theorem frz_mkif {a0 : Nat} {a1 : AX} : frzA (.mkif a0 a1) t = True := propext Iff.rfl
theorem frz_mkfn {a0 : Nat} {a1 : List AX} {a2 : List AX} : frzA (.mkfn a0 a1 a2) t = True := propext Iff.rfl
theorem frz_mkslice {a0 : Bool} {a1 : Nat} {a2 : Nat} {a3 : List PV} {a4 : AX} {a5 : AX} : frzA (.mkslice a0 a1 a2 a3 a4 a5) t = True := propext Iff.rfl
theorem frz_slice {a0 : Nat} {a1 : AX} {a2 : Option AX} {a3 : Option AX} {a4 : Option AX} : frzA (.slice a0 a1 a2 a3 a4) t = True := propext Iff.rfl
theorem frz_sstr {a0 : AX} {a1 : Option AX} {a2 : Option AX} : frzA (.sstr a0 a1 a2) t = True := propext Iff.rfl
theorem frz_faddr {a0 : AX} {a1 : Nat} : frzA (.faddr a0 a1) t = True := propext Iff.rfl
theorem frz_iaddr {a0 : Nat} {a1 : AX} {a2 : AX} : frzA (.iaddr a0 a1 a2) t = True := propext Iff.rfl
theorem frz_fld {a0 : AX} {a1 : Nat} {a2 : Option Nat} : frzA (.fld a0 a1 a2) t = True := propext Iff.rfl
theorem frz_idx {a0 : Nat} {a1 : Nat} {a2 : Option Nat} {a3 : AX} {a4 : AX} : frzA (.idx a0 a1 a2 a3 a4) t = True := propext Iff.rfl
theorem frz_sidx {a0 : AX} {a1 : AX} : frzA (.sidx a0 a1) t = True := propext Iff.rfl
theorem frz_extr {a0 : AX} {a1 : Nat} : frzA (.extr a0 a1) t = True := propext Iff.rfl
theorem frz_len {a0 : AX} : frzA (.len a0) t = True := propext Iff.rfl
theorem frz_slen {a0 : AX} : frzA (.slen a0) t = True := propext Iff.rfl
theorem frz_mlen {a0 : AX} : frzA (.mlen a0) t = True := propext Iff.rfl
theorem frz_append {a0 : Nat} {a1 : Nat} {a2 : AX} {a3 : AX} : frzA (.append a0 a1 a2 a3) t = True := propext Iff.rfl
theorem frz_mnx {a0 : Bool} {a1 : AX} {a2 : AX} : frzA (.mnx a0 a1 a2) t = True := propext Iff.rfl
theorem frz_rangem {a0 : AX} : frzA (.rangem a0) t = True := propext Iff.rfl
theorem frz_nextm {a0 : AX} : frzA (.nextm a0) t = True := propext Iff.rfl
theorem frz_mkmap : frzA (.mkmap ) t = True := propext Iff.rfl
theorem frz_call {a0 : AX} {a1 : List AX} : frzA (.call a0 a1) t = True := propext Iff.rfl
theorem frz_dfr {a0 : AX} {a1 : List AX} : frzA (.dfr a0 a1) t = True := propext Iff.rfl
theorem frz_rcv : frzA (.rcv ) t = True := propext Iff.rfl
theorem frz_pan {a0 : AX} : frzA (.pan a0) t = True := propext Iff.rfl
theorem frz_tass {a0 : Nat} {a1 : PV} {a2 : AX} : frzA (.tass a0 a1 a2) t = True := propext Iff.rfl
theorem wat_mv {W : Nat → Prop} {a0 : AX} : watA W (.mv a0) t = True := propext Iff.rfl
theorem wat_pick {W : Nat → Prop} {a0 : AX} {a1 : AX} {a2 : AX} : watA W (.pick a0 a1 a2) t = True := propext Iff.rfl
theorem wat_alloc {W : Nat → Prop} {a0 : List PV} : watA W (.alloc a0) t = True := propext Iff.rfl
theorem wat_box {W : Nat → Prop} {a0 : Nat} {a1 : AX} : watA W (.box a0 a1) t = True := propext Iff.rfl
theorem wat_fbox {W : Nat → Prop} {a0 : Nat} {a1 : AX} : watA W (.fbox a0 a1) t = True := propext Iff.rfl
theorem wat_build {W : Nat → Prop} {a0 : List PV} {a1 : List (Nat × Nat × AX)} : watA W (.build a0 a1) t = True := propext Iff.rfl
theorem wat_bslice {W : Nat → Prop} {a0 : Bool} {a1 : Nat} {a2 : List PV} {a3 : Nat} {a4 : List (Nat × AX)} : watA W (.bslice a0 a1 a2 a3 a4) t = True := propext Iff.rfl
theorem wat_store {W : Nat → Prop} {a0 : Nat} {a1 : AX} {a2 : AX} : watA W (.store a0 a1 a2) t = True := propext Iff.rfl
theorem wat_nilck {W : Nat → Prop} {a0 : AX} : watA W (.nilck a0) t = True := propext Iff.rfl
theorem wat_bin {W : Nat → Prop} {a0 : BinOp} {a1 : AX} {a2 : AX} : watA W (.bin a0 a1 a2) t = True := propext Iff.rfl
theorem wat_isnil {W : Nat → Prop} {a0 : Nat} {a1 : Bool} {a2 : AX} : watA W (.isnil a0 a1 a2) t = True := propext Iff.rfl
theorem wat_un {W : Nat → Prop} {a0 : UnOp} {a1 : AX} : watA W (.un a0 a1) t = True := propext Iff.rfl
theorem wat_conv {W : Nat → Prop} {a0 : IntKind} {a1 : AX} : watA W (.conv a0 a1) t = True := propext Iff.rfl
theorem wat_mkif {W : Nat → Prop} {a0 : Nat} {a1 : AX} : watA W (.mkif a0 a1) t = True := propext Iff.rfl
theorem wat_mkfn {W : Nat → Prop} {a0 : Nat} {a1 : List AX} {a2 : List AX} : watA W (.mkfn a0 a1 a2) t = True := propext Iff.rfl
theorem wat_slice {W : Nat → Prop} {a0 : Nat} {a1 : AX} {a2 : Option AX} {a3 : Option AX} {a4 : Option AX} : watA W (.slice a0 a1 a2 a3 a4) t = True := propext Iff.rfl
theorem wat_faddr {W : Nat → Prop} {a0 : AX} {a1 : Nat} : watA W (.faddr a0 a1) t = True := propext Iff.rfl
theorem wat_iaddr {W : Nat → Prop} {a0 : Nat} {a1 : AX} {a2 : AX} : watA W (.iaddr a0 a1 a2) t = True := propext Iff.rfl
theorem wat_fld {W : Nat → Prop} {a0 : AX} {a1 : Nat} {a2 : Option Nat} : watA W (.fld a0 a1 a2) t = True := propext Iff.rfl
theorem wat_extr {W : Nat → Prop} {a0 : AX} {a1 : Nat} : watA W (.extr a0 a1) t = True := propext Iff.rfl
theorem wat_len {W : Nat → Prop} {a0 : AX} : watA W (.len a0) t = True := propext Iff.rfl
theorem wat_append {W : Nat → Prop} {a0 : Nat} {a1 : Nat} {a2 : AX} {a3 : AX} : watA W (.append a0 a1 a2 a3) t = True := propext Iff.rfl
theorem wat_mnx {W : Nat → Prop} {a0 : Bool} {a1 : AX} {a2 : AX} : watA W (.mnx a0 a1 a2) t = True := propext Iff.rfl
theorem wat_call {W : Nat → Prop} {a0 : AX} {a1 : List AX} : watA W (.call a0 a1) t = True := propext Iff.rfl
theorem putK_some {n : Nat} {v : PV} : PutK KS t df (some n) v μ L = KS ⟨upd t n v, μ, L, df⟩ := propext Iff.rfl
theorem putK_none {v : PV} : PutK KS t df none v μ L = KS ⟨t, μ, L, df⟩ := propext Iff.rfl
theorem putP_a {v : PV} : PutP KP t df v μ L = KP v ⟨t, μ, L, df⟩ := propext Iff.rfl

end
end

section
variable {t : Regs} {μ : Mem} {L : Lv} {K : KA}
/-- One appends; what is appended to is frozen, and so is what comes. -/
theorem app_tok {sz bytes : Nat} {x y : AX} {tk tk2 : Tok} {xs ys : List PV} (hx : rd t x = .sl tk sz xs) (hy : rd t y = .sl tk2 sz ys) (hl : Liv L tk) (hb : (xs.length + ys.length) * bytes ≤ 140737488355328 ∧ xs.length + ys.length ≤ 140737488355328)
    (hK : ∀ b, Fresh μ L b → K (.sl (.tk b) sz (xs ++ ys)) μ (L.mv tk b)) : opM (.append sz bytes x y) t μ L K := by
  simp only [opM, hx, hy]
  exact ⟨ys, ⟨rfl, rfl⟩, trivial, hb, .inl ⟨hl, hK⟩⟩
end

theorem PV.fits_leaf {v : PV} (h : v.leaf = true) : v.fits 1 = true := by
  cases v <;> simp_all [PV.leaf, PV.fits, PV.flat]

/-- The token of what is appended to turns; the others live on. -/
def TkS (L : Lv) (tk : Tok) (L' : Lv) (tk' : Tok) : Prop := Liv L' tk' ∧ ∀ c, L c → tk ≠ .tk c → L' c ∧ tk' ≠ .tk c

theorem TkS.refl {L : Lv} {tk : Tok} (h : Liv L tk) : TkS L tk L tk := ⟨h, fun _ h1 h2 => ⟨h1, h2⟩⟩

theorem TkS.step {L L' : Lv} {tk tk' : Tok} {μ : Mem} {b : Nat} (h : TkS L tk L' tk') (hb : Fresh μ L' b) : TkS L tk (L'.mv tk' b) (.tk b) := by
  refine ⟨.inr ⟨b, rfl, .inl rfl⟩, fun c h1 h2 => ?_⟩
  obtain ⟨q1, q2⟩ := h.2 c h1 h2
  refine ⟨.inr ⟨q1, q2⟩, ?_⟩
  intro e
  cases e
  exact hb.2 q1

theorem TkS.trans {L L' L'' : Lv} {tk tk' tk'' : Tok} (h : TkS L tk L' tk') (h' : TkS L' tk' L'' tk'') : TkS L tk L'' tk'' :=
  ⟨h'.1, fun c h1 h2 => h'.2 c (h.2 c h1 h2).1 (h.2 c h1 h2).2⟩

end
end Go.Bm

/- The lemmas of walks, in one. -/
namespace Go.Bm
open Go

theorem wkB : type_of% (And.intro (And.intro @act_mkmap (And.intro @act_mlen (And.intro @act_rangem @act_nextm))) (And.intro (And.intro (And.intro (And.intro (And.intro (And.intro (And.intro @aw_skip @aw_exit) (And.intro @aw_ret @aw_reg)) (And.intro (And.intro @aw_seq @aw_gseq) (And.intro @aw_block (And.intro @forQ_n @forQ_e)))) (And.intro (And.intro (And.intro @forQ_r @forQ_p) (And.intro @seqQ_n (And.intro @seqQ_e @seqQ_r))) (And.intro (And.intro @seqQ_p @gseqQ_n) (And.intro @gseqQ_e (And.intro @gseqQ_r @gseqQ_p))))) (And.intro (And.intro (And.intro (And.intro @blkQ_n @blkQ_e) (And.intro @blkQ_r (And.intro @blkQ_p @loopQ_n))) (And.intro (And.intro @loopQ_e @loopQ_r) (And.intro @loopQ_p (And.intro @nrmQ_a @panQ_a)))) (And.intro (And.intro (And.intro @run_nil @run_cons) (And.intro @runF_nil (And.intro @runF_cons @stepF_g0))) (And.intro (And.intro @stepF_gt @stepF_gf) (And.intro @stepF_gu (And.intro @fppv_f @frz_load)))))) (And.intro (And.intro (And.intro (And.intro (And.intro @frz_mv @frz_pick) (And.intro @frz_alloc @frz_box)) (And.intro (And.intro @frz_fbox @frz_build) (And.intro @frz_bslice (And.intro @frz_store @frz_nilck)))) (And.intro (And.intro (And.intro @frz_bin @frz_binb) (And.intro @frz_isnil (And.intro @frz_isnils @frz_eqs))) (And.intro (And.intro @frz_un @frz_conv) (And.intro @frz_b2s (And.intro @frz_mkif @frz_mkfn))))) (And.intro (And.intro (And.intro (And.intro @frz_mkslice @frz_slice) (And.intro @frz_sstr (And.intro @frz_faddr @frz_iaddr))) (And.intro (And.intro @frz_fld @frz_idx) (And.intro @frz_sidx (And.intro @frz_extr @frz_len)))) (And.intro (And.intro (And.intro @frz_slen @frz_mlen) (And.intro @frz_append (And.intro @frz_mnx @frz_mkmap))) (And.intro (And.intro @frz_call @frz_dfr) (And.intro @frz_rcv (And.intro @frz_pan @frz_tass))))))) (And.intro (And.intro (And.intro (And.intro (And.intro (And.intro @act_fbox @act_mv) (And.intro @act_pick @act_build)) (And.intro (And.intro @act_bslice @act_nilck) (And.intro @act_bin (And.intro @act_binb @act_isnil)))) (And.intro (And.intro (And.intro @act_eqs @act_un) (And.intro @act_conv (And.intro @act_mkif @act_mkfn))) (And.intro (And.intro @act_slice @act_sstr) (And.intro @act_faddr (And.intro @act_iaddr @act_fld))))) (And.intro (And.intro (And.intro (And.intro @act_idx @act_sidx) (And.intro @act_extr (And.intro @act_tass @act_len))) (And.intro (And.intro @act_slen @act_mnx) (And.intro @act_alloc (And.intro @act_box @act_load)))) (And.intro (And.intro (And.intro @act_store @act_isnils) (And.intro @act_b2s (And.intro @act_mkslice @act_append))) (And.intro (And.intro @act_call @act_pan) (And.intro @act_dfr (And.intro @callA_fn @callA_yld)))))) (And.intro (And.intro (And.intro (And.intro (And.intro @step_g0 @step_gt) (And.intro @step_gf @step_gu)) (And.intro (And.intro @putK_some @putK_none) (And.intro @putP_a (And.intro @aw_cond_t @aw_cond_f)))) (And.intro (And.intro (And.intro @cellsV_c @loadV_p) (And.intro @loadV_f (And.intro @partV_n @partV_s))) (And.intro (And.intro @stoC_c @stoK_p) (And.intro @panK_i (And.intro @dfrK_f @set_app))))) (And.intro (And.intro (And.intro (And.intro @optK_some @put_some) (And.intro @put_none (And.intro @upd_app @args0_zero))) (And.intro (And.intro @args0_succ @args0_nil) (And.intro @intOp_add (And.intro @intOp_sub @intOp_quo)))) (And.intro (And.intro (And.intro @intOp_rem @intOp_and) (And.intro @intOp_or (And.intro @intOp_xor @intOp_eql))) (And.intro (And.intro @intOp_neq @intOp_lss) (And.intro @intOp_leq (And.intro @intOp_gtr @intOp_geq))))))))) := (And.intro (And.intro @act_mkmap (And.intro @act_mlen (And.intro @act_rangem @act_nextm))) (And.intro (And.intro (And.intro (And.intro (And.intro (And.intro (And.intro @aw_skip @aw_exit) (And.intro @aw_ret @aw_reg)) (And.intro (And.intro @aw_seq @aw_gseq) (And.intro @aw_block (And.intro @forQ_n @forQ_e)))) (And.intro (And.intro (And.intro @forQ_r @forQ_p) (And.intro @seqQ_n (And.intro @seqQ_e @seqQ_r))) (And.intro (And.intro @seqQ_p @gseqQ_n) (And.intro @gseqQ_e (And.intro @gseqQ_r @gseqQ_p))))) (And.intro (And.intro (And.intro (And.intro @blkQ_n @blkQ_e) (And.intro @blkQ_r (And.intro @blkQ_p @loopQ_n))) (And.intro (And.intro @loopQ_e @loopQ_r) (And.intro @loopQ_p (And.intro @nrmQ_a @panQ_a)))) (And.intro (And.intro (And.intro @run_nil @run_cons) (And.intro @runF_nil (And.intro @runF_cons @stepF_g0))) (And.intro (And.intro @stepF_gt @stepF_gf) (And.intro @stepF_gu (And.intro @fppv_f @frz_load)))))) (And.intro (And.intro (And.intro (And.intro (And.intro @frz_mv @frz_pick) (And.intro @frz_alloc @frz_box)) (And.intro (And.intro @frz_fbox @frz_build) (And.intro @frz_bslice (And.intro @frz_store @frz_nilck)))) (And.intro (And.intro (And.intro @frz_bin @frz_binb) (And.intro @frz_isnil (And.intro @frz_isnils @frz_eqs))) (And.intro (And.intro @frz_un @frz_conv) (And.intro @frz_b2s (And.intro @frz_mkif @frz_mkfn))))) (And.intro (And.intro (And.intro (And.intro @frz_mkslice @frz_slice) (And.intro @frz_sstr (And.intro @frz_faddr @frz_iaddr))) (And.intro (And.intro @frz_fld @frz_idx) (And.intro @frz_sidx (And.intro @frz_extr @frz_len)))) (And.intro (And.intro (And.intro @frz_slen @frz_mlen) (And.intro @frz_append (And.intro @frz_mnx @frz_mkmap))) (And.intro (And.intro @frz_call @frz_dfr) (And.intro @frz_rcv (And.intro @frz_pan @frz_tass))))))) (And.intro (And.intro (And.intro (And.intro (And.intro (And.intro @act_fbox @act_mv) (And.intro @act_pick @act_build)) (And.intro (And.intro @act_bslice @act_nilck) (And.intro @act_bin (And.intro @act_binb @act_isnil)))) (And.intro (And.intro (And.intro @act_eqs @act_un) (And.intro @act_conv (And.intro @act_mkif @act_mkfn))) (And.intro (And.intro @act_slice @act_sstr) (And.intro @act_faddr (And.intro @act_iaddr @act_fld))))) (And.intro (And.intro (And.intro (And.intro @act_idx @act_sidx) (And.intro @act_extr (And.intro @act_tass @act_len))) (And.intro (And.intro @act_slen @act_mnx) (And.intro @act_alloc (And.intro @act_box @act_load)))) (And.intro (And.intro (And.intro @act_store @act_isnils) (And.intro @act_b2s (And.intro @act_mkslice @act_append))) (And.intro (And.intro @act_call @act_pan) (And.intro @act_dfr (And.intro @callA_fn @callA_yld)))))) (And.intro (And.intro (And.intro (And.intro (And.intro @step_g0 @step_gt) (And.intro @step_gf @step_gu)) (And.intro (And.intro @putK_some @putK_none) (And.intro @putP_a (And.intro @aw_cond_t @aw_cond_f)))) (And.intro (And.intro (And.intro @cellsV_c @loadV_p) (And.intro @loadV_f (And.intro @partV_n @partV_s))) (And.intro (And.intro @stoC_c @stoK_p) (And.intro @panK_i (And.intro @dfrK_f @set_app))))) (And.intro (And.intro (And.intro (And.intro @optK_some @put_some) (And.intro @put_none (And.intro @upd_app @args0_zero))) (And.intro (And.intro @args0_succ @args0_nil) (And.intro @intOp_add (And.intro @intOp_sub @intOp_quo)))) (And.intro (And.intro (And.intro @intOp_rem @intOp_and) (And.intro @intOp_or (And.intro @intOp_xor @intOp_eql))) (And.intro (And.intro @intOp_neq @intOp_lss) (And.intro @intOp_leq (And.intro @intOp_gtr @intOp_geq)))))))))

theorem wkV : type_of% (And.intro (And.intro (And.intro (And.intro (And.intro @runV_nil @runV_cons) (And.intro @stepV_g0 @stK_a)) (And.intro (And.intro @stayR_same @stayR_store) (And.intro @watA_load (And.intro @watV_f @watV_p)))) (And.intro (And.intro (And.intro @wat_mv @wat_pick) (And.intro @wat_alloc @wat_box)) (And.intro (And.intro @wat_fbox @wat_build) (And.intro @wat_bslice @wat_store)))) (And.intro (And.intro (And.intro (And.intro @wat_nilck @wat_bin) (And.intro @wat_isnil @wat_un)) (And.intro (And.intro @wat_conv @wat_mkif) (And.intro @wat_mkfn @wat_slice))) (And.intro (And.intro (And.intro @wat_faddr @wat_iaddr) (And.intro @wat_fld @wat_extr)) (And.intro (And.intro @wat_len @wat_append) (And.intro @wat_mnx @wat_call))))) := (And.intro (And.intro (And.intro (And.intro (And.intro @runV_nil @runV_cons) (And.intro @stepV_g0 @stK_a)) (And.intro (And.intro @stayR_same @stayR_store) (And.intro @watA_load (And.intro @watV_f @watV_p)))) (And.intro (And.intro (And.intro @wat_mv @wat_pick) (And.intro @wat_alloc @wat_box)) (And.intro (And.intro @wat_fbox @wat_build) (And.intro @wat_bslice @wat_store)))) (And.intro (And.intro (And.intro (And.intro @wat_nilck @wat_bin) (And.intro @wat_isnil @wat_un)) (And.intro (And.intro @wat_conv @wat_mkif) (And.intro @wat_mkfn @wat_slice))) (And.intro (And.intro (And.intro @wat_faddr @wat_iaddr) (And.intro @wat_fld @wat_extr)) (And.intro (And.intro @wat_len @wat_append) (And.intro @wat_mnx @wat_call)))))

theorem wkC : type_of% (And.intro (And.intro (And.intro (And.intro (And.intro @Nat.succ_ne_zero (And.intro @Nat.zero_ne_one @Option.map_some.{0,0})) (And.intro @Option.map_none.{0,0} (And.intro @List.replicate_succ.{0} @List.replicate_zero.{0}))) (And.intro (And.intro @Bool.false_eq_true (And.intro @beq_self_eq_true.{0} @bne_self_eq_false.{0})) (And.intro (And.intro @Bool.bne_false @Bool.bne_true) (And.intro @Bool.not_false @Bool.not_true)))) (And.intro (And.intro (And.intro @List.cons_append.{0} (And.intro @List.nil_append.{0} @List.append_nil.{0})) (And.intro @List.map_cons.{0,0} (And.intro @List.map_nil.{0,0} @List.length_cons.{0}))) (And.intro (And.intro @List.length_nil.{0} (And.intro @List.all_cons.{0} @List.all_nil.{0})) (And.intro (And.intro @Bool.and_self @Bool.and_true) (And.intro @Bool.true_and @List.headD_cons.{0}))))) (And.intro (And.intro (And.intro (And.intro @List.set_cons_zero.{0} (And.intro @List.set_cons_succ.{0} @Nat.zero_lt_succ)) (And.intro @Nat.lt_add_one (And.intro @true_and @and_true))) (And.intro (And.intro @and_self (And.intro @Int.ofNat_toNat @Int.toNat_natCast)) (And.intro (And.intro @Nat.zero_add @if_true.{1}) (And.intro @if_true.{0} @if_false.{1})))) (And.intro (And.intro (And.intro @if_false.{0} (And.intro @decide_true @decide_false)) (And.intro (And.intro @decide_eq_true_eq @PV.int.injEq) (And.intro @PV.bool.injEq @List.getElem?_cons_zero.{0}))) (And.intro (And.intro @List.getElem?_cons_succ.{0} (And.intro @List.take_succ_cons.{0} @List.take_zero.{0})) (And.intro (And.intro @List.drop_succ_cons.{0} @List.drop_zero.{0}) (And.intro @List.take_nil.{0} @List.drop_nil.{0})))))) := (And.intro (And.intro (And.intro (And.intro (And.intro @Nat.succ_ne_zero (And.intro @Nat.zero_ne_one @Option.map_some.{0,0})) (And.intro @Option.map_none.{0,0} (And.intro @List.replicate_succ.{0} @List.replicate_zero.{0}))) (And.intro (And.intro @Bool.false_eq_true (And.intro @beq_self_eq_true.{0} @bne_self_eq_false.{0})) (And.intro (And.intro @Bool.bne_false @Bool.bne_true) (And.intro @Bool.not_false @Bool.not_true)))) (And.intro (And.intro (And.intro @List.cons_append.{0} (And.intro @List.nil_append.{0} @List.append_nil.{0})) (And.intro @List.map_cons.{0,0} (And.intro @List.map_nil.{0,0} @List.length_cons.{0}))) (And.intro (And.intro @List.length_nil.{0} (And.intro @List.all_cons.{0} @List.all_nil.{0})) (And.intro (And.intro @Bool.and_self @Bool.and_true) (And.intro @Bool.true_and @List.headD_cons.{0}))))) (And.intro (And.intro (And.intro (And.intro @List.set_cons_zero.{0} (And.intro @List.set_cons_succ.{0} @Nat.zero_lt_succ)) (And.intro @Nat.lt_add_one (And.intro @true_and @and_true))) (And.intro (And.intro @and_self (And.intro @Int.ofNat_toNat @Int.toNat_natCast)) (And.intro (And.intro @Nat.zero_add @if_true.{1}) (And.intro @if_true.{0} @if_false.{1})))) (And.intro (And.intro (And.intro @if_false.{0} (And.intro @decide_true @decide_false)) (And.intro (And.intro @decide_eq_true_eq @PV.int.injEq) (And.intro @PV.bool.injEq @List.getElem?_cons_zero.{0}))) (And.intro (And.intro @List.getElem?_cons_succ.{0} (And.intro @List.take_succ_cons.{0} @List.take_zero.{0})) (And.intro (And.intro @List.drop_succ_cons.{0} @List.drop_zero.{0}) (And.intro @List.take_nil.{0} @List.drop_nil.{0}))))))

end Go.Bm
