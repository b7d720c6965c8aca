/- For every input WorkersRecords returns true, and each argument reads as it did: the given statement WorkersRecordsSaid, without conditions. -/
import Derived.Test.YtjgoicmdcegmnaaGreatRows
import Derived.WalkKit
import Derived.ProofKit
import Derived.OpenShut
import Derived.ShutString
import Derived.ChangeOld
import Derived.Below
import Derived.Lib.SmallJoins
import Derived.Carry
import Derived.Test.YtjgoicmdcegmnaaGreatWkG
import Derived.Test.YtjgoicmdcegmnaaGreatFactsC

set_option linter.unusedVariables false
set_option linter.unusedSimpArgs false

/- The row of WorkersRecords. -/
namespace Go.Proofs.YtjgoicmdcegmnaaGreat.workersRecords
open Go.ChangeShapes Go.WideShapes Go.ChangeAt Go.RowKit Go.Joins
open Go.Bm
set_option linter.unusedVariables false

theorem own : ownKnob Tryz.prog.godebug = none := by kernel_rfl
theorem laidOut : laidOutB Tryz.prog = true := by kernel_rfl

/-- A slice of integers that came in: it is nil, or it leads to a row of cells. -/
def IsRow (k : IntKind) (w : World) (a : Option Addr) (len cap : Nat) (zs : List Int) : Prop :=
  (a = none ∧ len = 0 ∧ cap = 0 ∧ zs = []) ∨
  ∃ x, a = some x ∧ len ≤ cap ∧ zs.length = cap ∧ (∀ i, i < zs.length → w.cell? (x.add i) = some (.int k (zs.getD i 0))) ∧ ∀ n ∈ zs, (Lit.int k n).wf = true

/-- At the call everything that is there is frozen. -/
def gh0 (W : World) : Gh := { nx := 0, loc := fun _ => none, tok := fun _ => none, fz := fun b _ => b < W.heap.size, ow := fun _ => none }

theorem rel0 (W : World) : Rel (gh0 W) (fun _ => none) (fun _ => False) W :=
  ⟨fun i o h => (by cases h), fun a h => h.elim, fun b o h => h, fun b h => absurd rfl h, fun i _ => ⟨rfl, rfl, rfl, fun h => h⟩, fun i => .inl rfl⟩

theorem rv_row {k : IntKind} {W : World} {a : Option Addr} {len cap : Nat} {zs : List Int} (h : IsRow k W a len cap zs) : RV (gh0 W) W (.slice a len cap) (.sl .no 1 ((zs.take len).map (PV.int k))) := by
  rcases h with ⟨rfl, rfl, rfl, rfl⟩ | ⟨x, rfl, hl, hz, hc, hw⟩
  · exact .slE trivial
  · by_cases h0 : len = 0
    · subst h0
      exact .slE trivial
    · have hc0 := hc 0 (by omega)
      obtain ⟨b, off, spot⟩ := x
      have hspot : spot = none := by simpa [Addr.add] using World.cell?_spot hc0
      subst hspot
      have hx : b < W.heap.size := by
        have h2 := hc0
        apply Nat.lt_of_not_le
        intro hle
        have e : W.heap[b]? = none := Array.getElem?_eq_none hle
        simp [World.cell?, Addr.add, e] at h2
      have hlen : ((zs.take len).map (PV.int k)).length = len := by simp; omega
      have key : RV (gh0 W) W (.slice (some ⟨b, off, none⟩) ((zs.take len).map (PV.int k)).length cap) (.sl .no 1 ((zs.take len).map (PV.int k))) := by
        have hcell : ∀ i, i < len → W.cell? ⟨b, off + i, none⟩ = some (.int k (zs.getD i 0)) := by
          intro i hi
          have h2 := hc i (by omega)
          have ea : (Addr.mk b off none).add i = ⟨b, off + i, none⟩ := by by_cases e : i = 0 <;> simp [Addr.add, e]
          rwa [ea] at h2
        refine .sl (by rw [hlen]; exact hl) trivial ?_ ?_ ?_ ?_
        · intro y hy
          obtain ⟨n, _, rfl⟩ := List.mem_map.1 hy
          rfl
        · intro y hy z hz'
          obtain ⟨n, _, rfl⟩ := List.mem_map.1 hy
          have : z = .int k n := by simpa [PV.flat] using hz'
          subst this; rfl
        · intro i o hi ho
          have ho' : o = 0 := by omega
          subst ho'
          rw [hlen] at hi
          refine ⟨hx, ?_⟩
          have := hcell i hi
          simp only [Nat.mul_one, Nat.add_zero]
          rw [this]; rfl
        · intro i o y z u hy hz' hu
          have ho' : o = 0 := by
            have h1 := List.mem_of_getElem? hy
            obtain ⟨n, _, rfl⟩ := List.mem_map.1 h1
            have := (List.getElem?_eq_some_iff.1 hz').1
            simp [PV.flat] at this; omega
          subst ho'
          have hi : i < len := by have := (List.getElem?_eq_some_iff.1 hy).1; omega
          simp only [Nat.mul_one, Nat.add_zero] at hu
          rw [hcell i hi] at hu
          cases hu
          rw [List.getElem?_map, List.getElem?_take_of_lt hi] at hy
          have hiz : i < zs.length := by omega
          rw [List.getElem?_eq_getElem hiz] at hy
          simp only [Option.map_some, Option.some.injEq] at hy
          subst hy
          have : z = .int k zs[i] := by simpa [PV.flat] using hz'.symm
          subst this
          have e : zs.getD i 0 = zs[i] := by rw [List.getD_eq_getElem?_getD, List.getElem?_eq_getElem hiz]; rfl
          rw [e]
          exact .int _ _
      rwa [hlen] at key

theorem rv_raw {W : World} {a0 a1 : Option Addr} {l0 c0 l1 c1 : Nat} {z0 z1 : List Int} (h0 : IsRow .i64 W a0 l0 c0 z0) (h1 : IsRow .u8 W a1 l1 c1 z1) :
    RV (gh0 W) W (.agg #[.slice a0 l0 c0, .slice a1 l1 c1]) (.agg [.sl .no 1 (ints (z0.take l0)), .sl .no 1 (byts (z1.take l1))]) := by
  refine .agg rfl ?_ ?_
  · intro y hy
    simp only [List.mem_cons, List.not_mem_nil, or_false] at hy
    rcases hy with rfl | rfl <;> rfl
  · intro k u y hu hy
    match k with
    | 0 => have e1 := Option.some.inj hu; have e2 := Option.some.inj hy; subst e1; subst e2; exact rv_row h0
    | 1 => have e1 := Option.some.inj hu; have e2 := Option.some.inj hy; subst e1; subst e2; exact rv_row h1
    | k + 2 => simp at hy

theorem wf_i64 {n : Int} (h : (Lit.int .i64 n).wf = true) : I64 n := by
  simp [Lit.wf, IntKind.min, IntKind.max, IntKind.signed, IntKind.bits] at h
  unfold I64; omega
theorem wf_u8 {n : Int} (h : (Lit.int .u8 n).wf = true) : 0 ≤ n ∧ n < 256 := by
  simp [Lit.wf, IntKind.min, IntKind.max, IntKind.signed, IntKind.bits] at h
  omega
theorem wf_u16 {n : Int} (h : (Lit.int .u16 n).wf = true) : 0 ≤ n ∧ n ≤ 65535 := by
  simp [Lit.wf, IntKind.min, IntKind.max, IntKind.signed, IntKind.bits] at h
  omega

theorem row_wf {k : IntKind} {w : World} {a : Option Addr} {len cap : Nat} {zs : List Int} (h : IsRow k w a len cap zs) : ∀ n ∈ zs, (Lit.int k n).wf = true := by
  rcases h with ⟨_, _, _, rfl⟩ | ⟨_, _, _, _, _, h⟩
  · simp
  · exact h

/-- The walk: it returns true, and writes nothing that was there. -/
theorem walk {a0 a1 a2 a3 : Option Addr} {l0 c0 l1 c1 l2 c2 l3 c3 : Nat} {z0 z1 z2 z3 : List Int} {n : Int} (W : World) (h0 : IsRow .i64 W a0 l0 c0 z0) (h1 : IsRow .u8 W a1 l1 c1 z1) (h2 : IsRow .i64 W a2 l2 c2 z2) (h3 : IsRow .u8 W a3 l3 c3 z3) (hn : (Lit.int .u16 n).wf = true) :
    Calls Tryz.prog 3 #[.agg #[.slice a0 l0 c0, .slice a1 l1 c1], .agg #[.slice a2 l2 c2, .slice a3 l3 c3], .int .u16 n] W fun e w' => e = .returned (.bool true) ∧ Below W.heap.size W w' := by
  have hc : ACall Tryz.prog 3 _ (fun _ => none) (fun _ => False) (fun v _ _ => v = .bool true) (fun _ _ _ => False) :=
    workers_ok (tn1 := .no) (tb1 := .no) (tn2 := .no) (tb2 := .no) (nx := z0.take l0) (zx := z1.take l1) (ny := z2.take l2) (zy := z3.take l3) (cut := n)
      (fun m hm => wf_i64 (row_wf h0 m (List.mem_of_mem_take hm))) (fun m hm => wf_u8 (row_wf h1 m (List.mem_of_mem_take hm)))
      (fun m hm => wf_i64 (row_wf h2 m (List.mem_of_mem_take hm))) (fun m hm => wf_u8 (row_wf h3 m (List.mem_of_mem_take hm))) (wf_u16 hn) _ _ _ _ (fun _ _ _ => rfl)
  refine (hc.2 (gh0 W) W _ rfl ?_ (rel0 W)).mono ?_
  · intro k u y hu hy
    match k with
    | 0 => have e1 := Option.some.inj hu; have e2 := Option.some.inj hy; subst e1; subst e2; exact rv_raw h0 h1
    | 1 => have e1 := Option.some.inj hu; have e2 := Option.some.inj hy; subst e1; subst e2; exact rv_raw h2 h3
    | 2 => have e1 := Option.some.inj hu; have e2 := Option.some.inj hy; subst e1; subst e2; exact .int _ _
    | k + 3 => simp at hy
  · intro e w' he
    cases e with
    | returned v =>
      obtain ⟨G', r, μ', L', k1, k2, k3, rfl⟩ := he
      refine ⟨by rw [RV.bool_inv k1], k3.os, k3.tape, k3.output, k3.size, fun b hb => (k3.old b hb rfl).1⟩
    | panicked chain => obtain ⟨G', v, r, μ', L', k0, k1, k2, k3, k4⟩ := he; exact k4.elim
    | outgrown => exact he.elim

theorem cells25 : Tryz.prog.cellsOf 25 = 2 := by kernel_rfl
theorem cells3 : Tryz.prog.cellsOf 3 = 1 := by kernel_rfl
theorem cells5 : Tryz.prog.cellsOf 5 = 1 := by kernel_rfl

theorem open_row {H : Type} {enc : TypeId × Value → H} {W : World} {t e : TypeId} {k : IntKind} {n : Nat} {v : Value} {y : DataW H × List MemPlace} (ht : Tryz.prog.underlying t = some (.slice e)) (he : Tryz.prog.underlying e = some (.int k)) (hc : Tryz.prog.cellsOf e = 1)
    (h : DataW.trod enc Tryz.prog W 0 (fun _ => true) true n t [v] = some y) : ∃ a len cap zs, v = .slice a len cap ∧ IsRow k W a len cap zs := by
  rcases open_ints ht he hc h with ⟨hcs, _⟩ | ⟨x, l, c, zs, hcs, _, hl, hm, hz, _, hcell, hwz⟩
  · simp only [List.cons.injEq, and_true] at hcs
    exact ⟨none, 0, 0, [], hcs, .inl ⟨rfl, rfl, rfl, rfl⟩⟩
  · simp only [List.cons.injEq, and_true] at hcs
    exact ⟨some x, l, c, zs, hcs, .inr ⟨x, rfl, hl, by simpa using hz, hcell, hwz⟩⟩

set_option maxRecDepth 100000 in
theorem lifted (os : Os) (started : os.Started) (H : Type) (enc : TypeId × Value → H) :
    ReturnsInHanded {} Tryz.checked os 3 .any (Rows.workersRecordsSpec.pre6 enc Tryz.prog Tryz.f3 Rows.workersRecordsRow.domain false) (Rows.workersRecordsSpec.post enc Tryz.prog Tryz.f3 false true false false) := by
  refine returnsInHanded_of_change (C := Tryz.checked) own started (by kernel_rfl) Tryz.func3
    (ChangeSpec.witness6 (enc := enc) (C := Tryz.checked) false ⟨#[], #[.agg #[.slice none 0 0, .slice none 0 0], .agg #[.slice none 0 0, .slice none 0 0], .int .u16 0], []⟩ 8 (by kernel_rfl) (by kernel_rfl) (by kernel_rfl) (by kernel_rfl)) ?_
  intro W base args ds gs before hval0 hW hcnd _
  have hval : ∀ (j : Nat) t v, Tryz.f3.params[j]? = some t → args[j]? = some v → Value.okWide Tryz.prog W .any base t v := hval0
  have hW' := hW
  obtain ⟨p, q, hA0, hV, rfl, hfz, hnd⟩ := hW
  have hA : DataW.TrodAll enc Tryz.prog W 0 (fun _ => true) true Tryz.f3.params.toList args.toList ds p := hA0
  rw [Tryz.params3] at hA hval
  obtain ⟨v0, vs0, d0, ds0, p0, q0, hargs, rfl, rfl, h0, r0⟩ := trodAll_cons hA
  obtain ⟨v1, vs1, d1, ds1, p1, q1, rfl, rfl, rfl, h1, r1⟩ := trodAll_cons r0
  obtain ⟨v2, vs2, d2, ds2, p2, q2, rfl, rfl, rfl, h2, r2⟩ := trodAll_cons r1
  obtain ⟨rfl, rfl, rfl⟩ := trodAll_nil r2
  obtain rfl : args = #[v0, v1, v2] := by cases args; simp_all
  obtain ⟨rfl, rfl⟩ := trodVars_none hV
  have k0 := h0
  have k1 := h1
  have lt0 : ∀ x ∈ p0, x.block < W.heap.size := by obtain ⟨m, hm⟩ := k0; exact DataW.trod_lt m _ _ _ hm
  have lt1 : ∀ x ∈ p1, x.block < W.heap.size := by obtain ⟨m, hm⟩ := k1; exact DataW.trod_lt m _ _ _ hm
  obtain ⟨u0, u1, y0, y1, n0, rfl, _, _, g0, g1⟩ := open_agg2 Tryz.underlying25 (by kernel_rfl) cells25 (hval 0 25 v0 rfl rfl) h0
  obtain ⟨u2, u3, y2, y3, n1, rfl, _, _, g2, g3⟩ := open_agg2 Tryz.underlying25 (by kernel_rfl) cells25 (hval 1 25 v1 rfl rfl) h1
  obtain ⟨a0, l0, c0, z0, rfl, w0⟩ := open_row Tryz.underlying22 Tryz.underlying3 cells3 g0
  obtain ⟨a1, l1, c1, z1, rfl, w1⟩ := open_row Tryz.underlying23 Tryz.underlying5 cells5 g1
  obtain ⟨a2, l2, c2, z2, rfl, w2⟩ := open_row Tryz.underlying22 Tryz.underlying3 cells3 g2
  obtain ⟨a3, l3, c3, z3, rfl, w3⟩ := open_row Tryz.underlying23 Tryz.underlying5 cells5 g3
  obtain ⟨n, rfl, rfl, rfl, w4⟩ := open_int Tryz.underlying26 (hval 2 26 v2 rfl rfl) h2
  clear hA0 hval0
  refine (walk W w0 w1 w2 w3 w4).mono fun e W' ⟨he, bel⟩ => ?_
  subst he
  exact ⟨_, rfl, _, _, _, [], _, [], hW', trodAll_mk1 (shut_bool Tryz.underlying4 _), (trodAll_cons_mk (Below.trod laidOut (by kernel_rfl) (of_decide_eq_true (by kernel_rfl)) k0 bel lt0) (trodAll_cons_mk (Below.trod laidOut (by kernel_rfl) (of_decide_eq_true (by kernel_rfl)) k1 bel lt1) (trodAll_cons_mk (shut_int Tryz.underlying26 w4) trodAll_mk0))), rfl, bel.frame _, fun h => by cases h⟩

theorem over : Rows.workersRecordsRow.holds Tryz.pinned (OpenSpec.ofChange Rows.workersRecordsSpec) :=
  OpenClaim.holds_of_wide 3 Tryz.f3 rfl rfl rfl rfl rfl rfl rfl ⟨rfl, rfl, rfl, rfl, rfl⟩ rfl rfl rfl rfl rfl factName Tryz.func3 factsAll factInst factWrap
    (fun os started H enc _ => lifted os started H enc)

/-- The statement. -/
theorem proved : Rows.WorkersRecordsSaid := over

end Go.Proofs.YtjgoicmdcegmnaaGreat.workersRecords
