/- From a contract to a row: lists of floats. -/
import Derived.Test.YtaiebodmlnpbkaaFc
import Derived.Test.YtaiebodmlnpbkaaGz
namespace Go.Proofs.Ytaiebodmlnpbkaa
set_option linter.unusedSimpArgs false
set_option linter.unusedVariables false
open Go Cn Go.ChangeShapes Go.WideShapes Go.ChangeAt Go.RowKit

section
variable {H : Type} {enc : TypeId × Value → H} {P : Program} {W W' : World}
theorem cp_toFloat32S {B : Nat} {v : Value} {xs : List Nat} (hv : SlF W v xs) (hl : xs.length ≤ 1048576) (hB : B ≤ W.heap.size) :
    ACalls Try.prog B 11 [v] W (fun r W' => (∃ b, r = .slice (some ⟨b, 0, none⟩) xs.length xs.length) ∧ SlF W' r xs ∧ Below W.heap.size W W') := by
  refine (c_laws_toFloat32S hv hl hB).mono fun r W' h => ?_
  obtain ⟨rfl, rfl⟩ := h
  exact ⟨⟨_, rfl⟩, slF_new hv.canon _, (Below.refl _ _).alloc (Nat.le_refl _) _⟩
theorem cq_toFloat32S {B : Nat} {v : Value} {xs : List Nat} (hv : SlF W v xs) (hl : xs.length ≤ 1048576) (hB : B ≤ W.heap.size) :
    ACalls Try.prog B 11 [v] W (fun r W' => (∃ b, W.heap.size ≤ b ∧ r = .slice (some ⟨b, 0, none⟩) xs.length xs.length) ∧ SlF W' r xs ∧ Below W.heap.size W W') := by
  refine (c_laws_toFloat32S hv hl hB).mono fun r W' h => ?_
  obtain ⟨rfl, rfl⟩ := h
  exact ⟨⟨_, Nat.le_refl _, rfl⟩, slF_new hv.canon _, (Below.refl _ _).alloc (Nat.le_refl _) _⟩
/-- words of 32 bits -/
def Bd (xs : List Nat) : Prop := ∀ x ∈ xs, x < 4294967296
theorem cb_lt {x : Nat} (h : x < 4294967296) : cb .f32 x < 4294967296 := by
  unfold cb
  split
  · decide
  · exact h
theorem open_f32 {base : Nat} {t : TypeId} {v : Value} (ht : P.underlying t = some (.float .f32)) (hk : Value.okWide P W .any base t v) : ∃ n, v = .float .f32 n := by
  simp only [Value.okWide, ht, Cell.okWide] at hk
  cases v <;> simp_all [Cell.ok]
/-- an argument that is a list of 32-bit floats, opened -/
theorem open_f32s' {base : Nat} {held : Bool} {fuel : Nat} {t e : TypeId} {v : Value} {x : DataW H × List MemPlace} (ht : P.underlying t = some (.slice e)) (he : P.underlying e = some (.float .f32)) (hc : P.cellsOf e = 1)
    (hk : Value.okWide P W .any base t v) (h : DataW.trod enc P W 0 (fun _ => true) held fuel t v.cells.toList = some x) :
    ∃ xs, SlF (cw W.heap.size W) v xs ∧ xs.length ≤ 9223372036854775807 ∧ Bd xs := by
  obtain ⟨a, len, cap, rfl⟩ := okWide_slice ht hk
  rcases Deep.open_slice1 (P := P) ht hc h with ⟨h1, -⟩ | ⟨a', len', cap', m, n, V, D, Pl, h1, -, hl, hmax, hm, -, hx⟩
  · simp [Value.cells] at h1
    obtain ⟨rfl, rfl, rfl⟩ := h1
    exact ⟨[], .inl ⟨rfl, rfl⟩, by simp, fun x hx => by simp at hx⟩
  · simp [Value.cells] at h1
    obtain ⟨rfl, rfl, rfl⟩ := h1
    have hs : a'.spot = none := by
      simp only [Value.okWide, ht, Cell.okWide, Cell.ok] at hk
      exact hk.2.2.2.1
    obtain ⟨b, off, sp⟩ := a'
    simp only at hs; subst hs
    simp only [if_true] at hm; subst hm
    have hf : ∀ i, i < m → ∃ y, W.cell? ⟨b, off + i, none⟩ = some (.float .f32 y) ∧ y < 4294967296 := by
      intro i hi
      obtain ⟨h2, h3⟩ := hx i hi
      rw [add_plain] at h2
      cases n with
      | zero => simp [DataW.trod] at h3
      | succ n =>
        rw [DataW.trod_step] at h3
        unfold DataW.trodStep at h3
        rw [he] at h3
        generalize V i = u at h2 h3
        cases u with
        | float k y =>
          simp only [Option.ite_none_right_eq_some] at h3
          obtain ⟨⟨e1, e2⟩, -⟩ := h3
          subst e1
          exact ⟨y, h2, by simpa [Lit.wf] using e2⟩
        | _ => simp at h3
    have hb : ∀ i, i < m → b < W.heap.size := by
      intro i hi
      obtain ⟨y, h2, -⟩ := hf i hi
      exact World.block_lt_of_cell? _ _ h2
    obtain ⟨f, hf'⟩ := Deep.choose_lt (α := Nat) hf
    refine ⟨(List.range len).map fun i => cb .f32 (f i), .inr ⟨b, off, m, by simp, ?_⟩, by simp; exact Nat.le_trans hl hmax, ?_⟩
    · intro i hi
      simp at hi
      refine ⟨f i, ?_, by simp [List.getD_eq_getElem?_getD, hi]⟩
      rw [cell_old (hb i (by omega))]
      exact (hf' i (by omega)).1
    · intro x hx
      obtain ⟨i, hi, rfl⟩ := List.mem_map.1 hx
      exact cb_lt (hf' i (by have := List.mem_range.1 hi; omega)).2
theorem open_f32s {base : Nat} {held : Bool} {fuel : Nat} {t e : TypeId} {v : Value} {x : DataW H × List MemPlace} (ht : P.underlying t = some (.slice e)) (he : P.underlying e = some (.float .f32)) (hc : P.cellsOf e = 1)
    (hk : Value.okWide P W .any base t v) (h : DataW.trod enc P W 0 (fun _ => true) held fuel t v.cells.toList = some x) :
    ∃ xs, SlF (cw W.heap.size W) v xs := by
  obtain ⟨xs, h1, -⟩ := open_f32s' ht he hc hk h
  exact ⟨xs, h1⟩
end
end Go.Proofs.Ytaiebodmlnpbkaa
