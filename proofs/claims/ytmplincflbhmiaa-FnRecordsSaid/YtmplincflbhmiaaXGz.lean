/- From a contract to a row: arguments opened, old memory kept; whatever the elements are. -/
import Derived.Test.YtmplincflbhmiaaXTb
import Derived.Test.YtmplincflbhmiaaHr
import Derived.WalkKit
import Derived.ProofKit
import Derived.OpenShut
import Derived.ShutString
import Derived.ChangeOld
import Derived.Below
import Derived.SizedLaws
import Derived.Deep.Slices
namespace Go.Proofs.Ytmplincflbhmiaa
set_option linter.unusedSimpArgs false
set_option linter.unusedVariables false
open Go Cn Go.ChangeShapes Go.WideShapes Go.ChangeAt Go.RowKit

theorem own : ownKnob Try.prog.godebug = none := by kernel_rfl
theorem laidOut : laidOutB Try.prog = true := by kernel_rfl
theorem cv_bool_inv {u : Value} {b : Bool} (h : cv u = .bool b) : u = .bool b := by
  cases u <;> simp_all [cv, c1, cl]
theorem below_back {w W : World} (h : Below W.heap.size (cw W.heap.size W) (cw W.heap.size w)) : Below W.heap.size W w := by
  refine ⟨h.os, h.tape, h.output, by simpa using h.size, fun k hk => ?_⟩
  have := h.block k hk
  rwa [cw_heap_lt hk, cw_heap_lt hk] at this

section
variable {H : Type} {enc : TypeId × Value → H} {P : Program} {W W' : World}
theorem trodAll_stays (hl : laidOutB P = true) (hb : Below W.heap.size W W') : ∀ (ts : List TypeId) (vs : List Value) (ds : List (DataW H)) (ps : List MemPlace), ts.all (fun t => P.readableRec t && decide (t < P.types.size)) = true →
    DataW.TrodAll enc P W 0 (fun _ => true) true ts vs ds ps → DataW.TrodAll enc P W' 0 (fun b => decide (b < W.heap.size)) true ts vs ds ps
  | [], vs, ds, ps, _, h => by
    obtain ⟨rfl, rfl, rfl⟩ := trodAll_nil h
    exact trodAll_mk0
  | t :: ts, vs, ds, ps, hr, h => by
    obtain ⟨v, vs', d, ds', p, q, rfl, rfl, rfl, h0, h1⟩ := trodAll_cons h
    simp only [List.all_cons, Bool.and_eq_true, decide_eq_true_eq] at hr
    refine trodAll_cons_mk (Below.trod hl hr.1.1 hr.1.2 h0 hb ?_) (trodAll_stays hl hb ts vs' ds' q hr.2 h1)
    obtain ⟨m, hm⟩ := h0
    exact DataW.trod_lt m _ _ _ hm
theorem cell_old {b off : Nat} (h : b < W.heap.size) : (cw W.heap.size W).cell? ⟨b, off, none⟩ = W.cell? ⟨b, off, none⟩ := by
  rw [cw_cell]; simp [h]
/-- an argument that is a slice, opened: each element by 'op1' -/
theorem open_slV {k : Nat} {fuel : Nat} {t e : TypeId} {v : Value} {x : DataW H × List MemPlace} (hk : 0 < k) (hc : P.cellsOf e = k) (ht : P.underlying t = some (.slice e)) {α : Type} [Inhabited α] (f : α → List Value) (hf : ∀ y, (f y).length = k) (Q : α → Prop)
    (op1 : ∀ (n : Nat) (cs : List Value) (d : DataW H × List MemPlace), cs.length = k → DataW.trod enc P W 0 (fun _ => true) true n e cs = some d → ∃ y, cs.map cl = f y ∧ (∀ c ∈ cs, c.oneCell' = true) ∧ Q y)
    (hv : ∃ a n c, v = .slice a n c) (h : DataW.trod enc P W 0 (fun _ => true) true fuel t v.cells.toList = some x) : ∃ ys : List α, SlV (cw W.heap.size W) k v ys.length (ys.flatMap f) ∧ ys.length ≤ 9223372036854775807 ∧ ∀ y ∈ ys, Q y := by
  obtain ⟨a0, n0, c0, rfl⟩ := hv
  rcases Deep.open_slice (P := P) ht h with ⟨h1, -⟩ | ⟨a, len, cap, m, n, D, Pl, h1, -, hl, hmax, hm, -, hx⟩
  · simp [Value.cells] at h1
    obtain ⟨rfl, rfl, rfl⟩ := h1
    exact ⟨[], ⟨by simp, .inl ⟨rfl, .inl rfl⟩⟩, by simp, by simp⟩
  · simp [Value.cells] at h1
    obtain ⟨rfl, rfl, rfl⟩ := h1
    simp only [if_true] at hm; subst hm
    rw [hc] at hx
    have h2 : ∀ i, i < m → ∃ q : α × List Value, W.cells? 0 (a.add (i * k)) k = some q.2 ∧ q.2.map cl = f q.1 ∧ (∀ c ∈ q.2, c.oneCell' = true) ∧ Q q.1 := by
      intro i hi
      obtain ⟨cs', h3, h4⟩ := hx i hi
      obtain ⟨y, h5, h6, h7⟩ := op1 n cs' _ (World.cells?_some h3).2.1 h4
      exact ⟨(y, cs'), h3, h5, h6, h7⟩
    obtain ⟨g, hg⟩ := Deep.choose_lt h2
    by_cases hz : n0 = 0
    · subst hz
      exact ⟨[], ⟨by simp, .inl ⟨rfl, .inr ⟨a, _, rfl⟩⟩⟩, by simp, by simp⟩
    have h0 : 0 < m := by omega
    have hspot : a.spot = none := by
      have := (World.cells?_some (hg 0 h0).1).2.2 0 hk
      rw [Nat.zero_mul, show (a.add 0) = a from rfl, show (a.add 0) = a from rfl] at this
      cases hs : a.spot with
      | none => rfl
      | some sp =>
        have hl := (World.cells?_some (hg 0 h0).1).2.1
        rw [List.getElem?_eq_getElem (by omega)] at this
        unfold World.cell? at this
        split at this
        · simp [hs] at this
        · cases this
    obtain ⟨b, off, sp⟩ := a
    simp only at hspot; subst hspot
    have hlen : ((List.range n0).map fun i => (g i).1).length = n0 := by simp
    refine ⟨(List.range n0).map fun i => (g i).1, ?_, by rw [hlen]; exact Nat.le_trans hl hmax, ?_⟩
    · rw [hlen]
      refine ⟨by rw [flat_len hf]; simp, .inr ⟨b, off, m, rfl, hl, fun i hi => ?_⟩⟩
      rw [flat_len hf, hlen] at hi
      have hq : i / k < n0 := by
        rw [Nat.div_lt_iff_lt_mul hk]; exact hi
      have hr : i % k < k := Nat.mod_lt _ hk
      have hdiv : i / k * k + i % k = i := by rw [Nat.mul_comm]; exact Nat.div_add_mod i k
      obtain ⟨h3, h4, h5, -⟩ := hg (i / k) (by omega)
      obtain ⟨-, h6, h7⟩ := World.cells?_some h3
      have h8 := h7 (i % k) hr
      rw [Addr.add_lit, Addr.add_lit, List.getElem?_eq_getElem (by omega)] at h8
      rw [show off + i / k * k + i % k = off + i by omega] at h8
      refine ⟨_, (cell_old (World.block_lt_of_cell? _ _ h8)).trans h8, ?_, h5 _ (List.getElem_mem _)⟩
      have h9 := flat_get (xs := (List.range n0).map fun i => (g i).1) hf default (i := i / k) (j := i % k) (by simpa using hq) hr
      rw [hdiv] at h9
      rw [h9]
      have h10 : ((List.range n0).map fun i => (g i).1).getD (i / k) default = (g (i / k)).1 := by simp [List.getD_eq_getElem?_getD, hq]
      rw [h10, ← h4]
      simp [List.getD_eq_getElem?_getD, h6, hr]
    · intro y hy
      obtain ⟨i, hi, rfl⟩ := List.mem_map.1 hy
      exact (hg i (by have := List.mem_range.1 hi; omega)).2.2.2
end
end Go.Proofs.Ytmplincflbhmiaa
