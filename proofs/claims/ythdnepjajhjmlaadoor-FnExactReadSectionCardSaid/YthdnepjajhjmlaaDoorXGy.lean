/- Soils, sections and hills as arguments, opened. -/
import Derived.Test.YthdnepjajhjmlaaDoorGz
import Derived.Test.YthdnepjajhjmlaaDoorXFb
import Derived.Test.YthdnepjajhjmlaaDoorXGq
import Derived.Test.YthdnepjajhjmlaaDoorXFj
import Derived.OpenShut
namespace Go.Proofs.YthdnepjajhjmlaaDoor
set_option linter.unusedSimpArgs false
set_option linter.unusedVariables false
open Go Cn Go.ChangeShapes Go.WideShapes Go.ChangeAt Go.RowKit
section
variable {H : Type} {enc : TypeId × Value → H} {P : Program} {W : World} {base b0 : Nat} {spare : Nat → Bool} {held : Bool}
theorem trod_string {n : Nat} {t : TypeId} {v : Value} {x : DataW H × List MemPlace} (ht : P.underlying t = some .string) (h : DataW.trod enc P W b0 spare held n t [v] = some x) : ∃ s, v = .string s ∧ s.size ≤ 9223372036854775807 := by
  cases n with
  | zero => simp [DataW.trod] at h
  | succ n =>
    rw [DataW.trod_step] at h
    unfold DataW.trodStep at h
    rw [ht] at h
    cases v with
    | string s =>
      simp only [Option.ite_none_right_eq_some] at h
      exact ⟨s, rfl, h.1⟩
    | _ => simp at h
end
end Go.Proofs.YthdnepjajhjmlaaDoor
namespace Go.Proofs.YthdnepjajhjmlaaDoor
set_option linter.unusedSimpArgs false
set_option linter.unusedVariables false
open Go Cn Go.ChangeShapes Go.WideShapes Go.ChangeAt Go.RowKit
end Go.Proofs.YthdnepjajhjmlaaDoor
namespace Go.Proofs.YthdnepjajhjmlaaDoor
set_option linter.unusedSimpArgs false
set_option linter.unusedVariables false
open Go Cn Go.ChangeShapes Go.WideShapes Go.ChangeAt Go.RowKit
/-- a desk among the arguments -/
def DskA (W : World) (v : Value) (d : Dsk) : Prop := ∃ a c p1 k1 p2 k2 p3 k3, v = dskV d a c p1 k1 p2 k2 p3 k3 ∧ DkS W d a c p1 k1 p2 k2 p3 k3
structure Dsk.fits (d : Dsk) : Prop where
  hs : d.hs.length ≤ 9223372036854775807
  r : d.r.fits
  bh : Bd d.hs
  bs : Bd [d.s0, d.s1, d.s2, d.s3, d.s4]
  bt : Bd [d.t0, d.t1, d.t2, d.t3]
theorem DskA.below {A W : World} {v : Value} {d : Dsk} (h : DskA A v d) (hb : Below A.heap.size A W) : DskA W v d := by
  obtain ⟨a, c, p1, k1, p2, k2, p3, k3, h1, h2⟩ := h
  exact ⟨a, c, p1, k1, p2, k2, p3, k3, h1, h2.below hb⟩
section
variable {H : Type} {enc : TypeId × Value → H} {P : Program} {W : World} {base b0 : Nat} {spare : Nat → Bool} {held : Bool}
end
end Go.Proofs.YthdnepjajhjmlaaDoor
namespace Go.Proofs.YthdnepjajhjmlaaDoor
set_option linter.unusedSimpArgs false
set_option linter.unusedVariables false
open Go Cn Go.ChangeShapes Go.WideShapes Go.ChangeAt Go.RowKit
def HillA (W : World) (v : Value) (d : Dsk) : Prop := ∃ a c, v = hillV d a c ∧ SlF W (.slice a d.hs.length c) d.hs
theorem HillA.below {A W : World} {v : Value} {d : Dsk} (h : HillA A v d) (hb : Below A.heap.size A W) : HillA W v d := by
  obtain ⟨a, c, h1, h2⟩ := h
  exact ⟨a, c, h1, h2.below hb⟩
end Go.Proofs.YthdnepjajhjmlaaDoor
