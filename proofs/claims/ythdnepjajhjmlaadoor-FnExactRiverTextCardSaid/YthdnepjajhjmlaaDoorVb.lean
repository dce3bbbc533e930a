/- What Go's strings package does, as the kit's shelf tells it, over canonical worlds. -/
import Derived.Test.YthdnepjajhjmlaaDoorVa
import Derived.Test.YthdnepjajhjmlaaDoorVs
import Derived.Test.YthdnepjajhjmlaaDoorV0
import Derived.Test.YthdnepjajhjmlaaDoorHm
import Derived.Test.YthdnepjajhjmlaaDoorCt
namespace Go.Proofs.YthdnepjajhjmlaaDoor
set_option linter.unusedSimpArgs false
set_option linter.unusedVariables false
open Go Cn Go.RowKit
section
variable {B : Nat} {W : World}
/-- the library's variable MaxLen holds an int -/
def LibG (W : World) : Prop := ∃ m, W.cell? ⟨Tryd.lays146_ren.g 1, 0, none⟩ = some (.int .i64 m)
theorem LibG.below {A W : World} (h : LibG A) (hb : Below A.heap.size A W) : LibG W := by
  obtain ⟨m, hm⟩ := h
  exact ⟨m, (hb.cell (World.block_lt_of_cell? _ _ hm)).trans hm⟩
theorem LibG.hp {A : World} {l : List Res} (h : LibG A) (H : Hp B A W l) : LibG W := h.below H.below
theorem libG_of {W : World} (h : W.ShapedOpen Tryd.prog) : LibG (cw W.heap.size W) := by
  obtain ⟨m, hm⟩ := Tryd.laysM146.s1_3 W h
  refine ⟨m, ?_⟩
  rw [cw_cell]
  split
  · exact hm
  · have h2 : W.cell? ⟨Tryd.lays146_ren.g 1, 0, none⟩ = some (.int .i64 m) := hm
    rw [h2]; rfl
theorem LibG.raw {w : World} (h : LibG (cw B w)) : ∃ m, w.cell? ⟨Tryd.lays146_ren.g 1, 0, none⟩ = some (.int .i64 m) := by
  obtain ⟨m, hm⟩ := h
  rw [cw_cell] at hm
  split at hm
  · exact ⟨m, hm⟩
  · cases hc : w.cell? ⟨Tryd.lays146_ren.g 1, 0, none⟩ with
    | none => rw [hc] at hm; cases hm
    | some u =>
      rw [hc] at hm
      simp only [Option.map_some, Option.some.injEq] at hm
      refine ⟨m, ?_⟩
      cases u <;> simp_all [cl]
theorem strs2 {xs : Array Value} {a b : ByteArray} (h : xs.toList.map cv = [.string a, .string b]) : xs = #[.string a, .string b] := by
  obtain ⟨l⟩ := xs
  match l, h with
  | [u, v], h =>
    simp only [List.map_cons, List.map_nil, List.cons.injEq, and_true] at h
    rw [cv_string h.1, cv_string h.2]
  | [], h => cases h
  | [_], h => simp at h
  | _ :: _ :: _ :: _, h => simp at h
theorem c_Split (hG : LibG W) {s : ByteArray} {c : UInt8} (hs : s.size ≤ 1048576) (hB : B ≤ W.heap.size) :
    ACalls Tryd.prog B 74 [.string s, .string ⟨#[c]⟩] W (fun r W' => ∃ b, r = .slice (some ⟨b, 0, none⟩) (cutB c s).length (cutB c s).length ∧
      Hp B W W' [.row 9 1 (.slice (some ⟨b, 0, none⟩) (cutB c s).length (cutB c s).length) (cutB c s).length ((cutB c s).map .string)]) := by
  refine acalls_intro fun xs w h1 h2 h3 => ?_
  subst h2
  obtain ⟨m, hm⟩ := hG.raw
  rw [strs2 h1]
  refine (Tryd.strings_Split s ⟨#[c]⟩ m w (by omega) hm (Nat.le_refl 1)).mono fun e w' ⟨he, hw⟩ => ?_
  subst hw
  rw [split_cut, split_count] at *
  have hl := cutB_len c s
  refine ⟨_, he, ?_, w.heap.size, rfl, ?_⟩
  · exact Nat.le_trans h3 (Below.size ((Below.refl w.heap.size w).alloc (Nat.le_refl _) _))
  · rw [cw_alloc h3]
    have e1 : co (.cells ((cutB c s).map Value.string).toArray 9) = .cells ((cutB c s).map Value.string).toArray 9 := by
      simp [co, cl]
    rw [e1]
    have := Hp.allocRow (Hp.new (B := B) (W := cw B w) (by simpa using h3)) (cs := ((cutB c s).map Value.string).toArray) (c := (cutB c s).map Value.string) (e := 9) (sz := 1) (n := (cutB c s).length) (m := (cutB c s).length)
      (List.take_of_length_le (by simp)) (Nat.le_refl _) (by unfold maxLen; omega) (by simp) (by simp [Value.oneCell']) (by intro x hx; simp at hx; obtain ⟨y, -, rfl⟩ := hx; rfl)
    rwa [cw_size] at this
end
end Go.Proofs.YthdnepjajhjmlaaDoor
