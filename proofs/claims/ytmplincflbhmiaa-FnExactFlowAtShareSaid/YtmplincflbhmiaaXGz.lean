/- From a contract to a row: arguments opened, old memory kept; whatever the elements are. -/
import Derived.Test.YtmplincflbhmiaaTb
import Derived.Test.YtmplincflbhmiaaHr
import Derived.WalkKit
import Derived.ProofKit
import Derived.OpenShut
import Derived.ShutString
import Derived.ChangeOld
import Derived.Below
import Derived.SizedLaws
import Derived.Deep.Slices
namespace Go.Proofs.Ytmplincflbhmiaa
set_option linter.unusedSimpArgs false
set_option linter.unusedVariables false
open Go Cn Go.ChangeShapes Go.WideShapes Go.ChangeAt Go.RowKit

theorem own : ownKnob Try.prog.godebug = none := by kernel_rfl
theorem laidOut : laidOutB Try.prog = true := by kernel_rfl
theorem cv_bool_inv {u : Value} {b : Bool} (h : cv u = .bool b) : u = .bool b := by
  cases u <;> simp_all [cv, c1, cl]
theorem below_back {w W : World} (h : Below W.heap.size (cw W.heap.size W) (cw W.heap.size w)) : Below W.heap.size W w := by
  refine ⟨h.os, h.tape, h.output, by simpa using h.size, fun k hk => ?_⟩
  have := h.block k hk
  rwa [cw_heap_lt hk, cw_heap_lt hk] at this

section
variable {H : Type} {enc : TypeId × Value → H} {P : Program} {W W' : World}
theorem trodAll_stays (hl : laidOutB P = true) (hb : Below W.heap.size W W') : ∀ (ts : List TypeId) (vs : List Value) (ds : List (DataW H)) (ps : List MemPlace), ts.all (fun t => P.readableRec t && decide (t < P.types.size)) = true →
    DataW.TrodAll enc P W 0 (fun _ => true) true ts vs ds ps → DataW.TrodAll enc P W' 0 (fun b => decide (b < W.heap.size)) true ts vs ds ps
  | [], vs, ds, ps, _, h => by
    obtain ⟨rfl, rfl, rfl⟩ := trodAll_nil h
    exact trodAll_mk0
  | t :: ts, vs, ds, ps, hr, h => by
    obtain ⟨v, vs', d, ds', p, q, rfl, rfl, rfl, h0, h1⟩ := trodAll_cons h
    simp only [List.all_cons, Bool.and_eq_true, decide_eq_true_eq] at hr
    refine trodAll_cons_mk (Below.trod hl hr.1.1 hr.1.2 h0 hb ?_) (trodAll_stays hl hb ts vs' ds' q hr.2 h1)
    obtain ⟨m, hm⟩ := h0
    exact DataW.trod_lt m _ _ _ hm
theorem cell_old {b off : Nat} (h : b < W.heap.size) : (cw W.heap.size W).cell? ⟨b, off, none⟩ = W.cell? ⟨b, off, none⟩ := by
  rw [cw_cell]; simp [h]
end
end Go.Proofs.Ytmplincflbhmiaa
