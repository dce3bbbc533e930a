/- Arguments that are lists of records, opened. -/
import Derived.Test.YtkbcbbcacabelaaFg
import Derived.Test.YtkbcbbcacabelaaGz
import Derived.Test.YtkbcbbcacabelaaTa
namespace Go.Proofs.Ytkbcbbcacabelaa
set_option linter.unusedSimpArgs false
set_option linter.unusedVariables false
open Go Cn Go.ChangeShapes Go.WideShapes Go.ChangeAt Go.RowKit
section
variable {H : Type} {enc : TypeId × Value → H} {P : Program} {W : World} {base b0 : Nat} {spare : Nat → Bool} {held : Bool}
theorem trod_string {n : Nat} {t : TypeId} {v : Value} {x : DataW H × List MemPlace} (ht : P.underlying t = some .string) (h : DataW.trod enc P W b0 spare held n t [v] = some x) : ∃ s, v = .string s ∧ s.size ≤ 9223372036854775807 := by
  cases n with
  | zero => simp [DataW.trod] at h
  | succ n =>
    rw [DataW.trod_step] at h
    unfold DataW.trodStep at h
    rw [ht] at h
    cases v with
    | string s =>
      simp only [Option.ite_none_right_eq_some] at h
      exact ⟨s, rfl, h.1⟩
    | _ => simp at h
theorem trod_int {n : Nat} {t : TypeId} {k : IntKind} {v : Value} {x : DataW H × List MemPlace} (ht : P.underlying t = some (.int k)) (h : DataW.trod enc P W b0 spare held n t [v] = some x) : ∃ z, v = .int k z := by
  cases n with
  | zero => simp [DataW.trod] at h
  | succ n =>
    rw [DataW.trod_step] at h
    unfold DataW.trodStep at h
    rw [ht] at h
    cases v with
    | int k' z =>
      simp only [Option.ite_none_right_eq_some] at h
      exact ⟨z, by rw [h.1.1]⟩
    | _ => simp at h
theorem okWide_of_cell {t e : TypeId} {v : Value} (ht : P.underlying t = some (.slice e)) (h : Cell.okWide P W .any base t v) : Value.okWide P W .any base t v := by
  simp only [Value.okWide, ht]; exact h
end
set_option maxRecDepth 100000 in
theorem open_rec {H : Type} {enc : TypeId × Value → H} {W : World} {base m : Nat} {v : Value} {x : DataW H × List MemPlace} (hk : Value.okWide Try.prog W .any base 35 v) (h : DataW.trod enc Try.prog W 0 (fun _ => true) true m 35 v.cells.toList = some x) :
    ∃ s st sp xs, RecA (cw W.heap.size W) (cv v) s st sp xs ∧ s.size ≤ 9223372036854775807 ∧ xs.length ≤ 9223372036854775807 ∧ Bd xs := by
  have hcell : Try.prog.cellsOf 35 = 4 := by kernel_rfl
  have hct : Try.prog.cellTypes Try.prog.depth 35 = some [9, 2, 2, 22] := by kernel_rfl
  have hk' := hk
  obtain ⟨cs, rfl, hsz⟩ := okWide_struct Try.underlying35 hk
  simp only [Value.okWide, Try.underlying35] at hk'
  obtain ⟨cs', he, -, ts, hts, -, hrow⟩ := hk'
  cases he
  rw [hct] at hts
  cases hts
  rw [hcell] at hsz
  obtain ⟨l⟩ := cs
  match l, hsz with
  | [c0, c1, c2, c3], _ =>
    cases m with
    | zero => simp [DataW.trod] at h
    | succ n =>
      rw [DataW.trod_step] at h
      unfold DataW.trodStep at h
      rw [Try.underlying35] at h
      have w9 : Try.prog.cellsOf 9 = 1 := by kernel_rfl
      have w2 : Try.prog.cellsOf 2 = 1 := by kernel_rfl
      have w22 : Try.prog.cellsOf 22 = 1 := by kernel_rfl
      simp only [Value.cells, hcell, w9, w2, w22, List.length_cons, List.length_nil, List.mapM_cons, List.mapM_nil, List.drop_zero, List.drop_succ_cons, List.take_succ_cons, List.take_zero, if_true, Option.bind_eq_bind, Option.map_eq_some_iff, Option.bind_eq_some_iff, Option.pure_def] at h
      obtain ⟨_, ⟨x0, h0, _, ⟨x1, h1, _, ⟨x2, h2, _, ⟨x3, h3, -⟩, -⟩, -⟩, -⟩, -⟩ := h
      obtain ⟨s, rfl, hs⟩ := trod_string Try.underlying9 h0
      obtain ⟨st, rfl⟩ := trod_int Try.underlying2 h1
      obtain ⟨sp, rfl⟩ := trod_int Try.underlying2 h2
      obtain ⟨u, hu, hcw⟩ := hrow 3 c3 rfl
      cases hu
      have hkw := okWide_of_cell Try.underlying22 hcw
      obtain ⟨a, q, c, rfl⟩ := okWide_slice Try.underlying22 hkw
      obtain ⟨xs, hx, hlen, hbd⟩ := open_f32s' Try.underlying22 Try.underlying61 (by kernel_rfl) hkw h3
      obtain ⟨a', c', he⟩ := hx.form
      cases he
      exact ⟨s, st, sp, xs, ⟨a, c, by simp [cv, c1, cl], hx⟩, hs, hlen, hbd⟩
end Go.Proofs.Ytkbcbbcacabelaa
namespace Go.Proofs.Ytkbcbbcacabelaa
set_option linter.unusedSimpArgs false
set_option linter.unusedVariables false
open Go Cn Go.ChangeShapes Go.WideShapes Go.ChangeAt Go.RowKit
theorem flat_oneF : ∀ xs : List Nat, xs.flatMap (fun x => [Value.float .f32 x]) = xs.map (.float .f32)
  | [] => rfl
  | x :: xs => by rw [List.flatMap_cons, flat_oneF xs]; rfl
set_option maxRecDepth 100000 in
theorem open_f32g {H : Type} {enc : TypeId × Value → H} {W : World} {fuel : Nat} {v : Value} {x : DataW H × List MemPlace} (hv : ∃ a n c, v = .slice a n c) (h : DataW.trod enc Try.prog W 0 (fun _ => true) true fuel 22 v.cells.toList = some x) :
    ∃ xs : List Nat, SlV (cw W.heap.size W) 1 v xs.length (xs.map (.float .f32)) ∧ xs.length ≤ 9223372036854775807 ∧ Bd xs := by
  have w1 : Try.prog.cellsOf 61 = 1 := by kernel_rfl
  obtain ⟨ys, h1, h2, h3⟩ := open_slV (P := Try.prog) (k := 1) (α := Nat) (by decide) w1 Try.underlying22 (fun y => [.float .f32 y]) (fun _ => rfl) (fun y => y < 4294967296) (fun n cs d hcs hd => by
    match cs, hcs with
    | [c], _ =>
      cases n with
      | zero => simp [DataW.trod] at hd
      | succ n =>
        rw [DataW.trod_step] at hd
        unfold DataW.trodStep at hd
        rw [Try.underlying61] at hd
        cases c with
        | float k y =>
          simp only [Option.ite_none_right_eq_some] at hd
          obtain ⟨⟨e1, e2⟩, -⟩ := hd
          subst e1
          exact ⟨cb .f32 y, rfl, by simp [Value.oneCell'], cb_lt (by simpa [Lit.wf] using e2)⟩
        | _ => simp at hd) hv h
  rw [flat_oneF] at h1
  exact ⟨ys, h1, h2, h3⟩
set_option maxRecDepth 100000 in
theorem open_recs {H : Type} {enc : TypeId × Value → H} {W : World} {fuel : Nat} {v : Value} {x : DataW H × List MemPlace} (hv : ∃ a n c, v = .slice a n c) (h : DataW.trod enc Try.prog W 0 (fun _ => true) true fuel 28 v.cells.toList = some x) :
    ∃ ys, SlCA (cw W.heap.size W) v ys ∧ fitsC ys := by
  have hcell : Try.prog.cellsOf 35 = 4 := by kernel_rfl
  have w9 : Try.prog.cellsOf 9 = 1 := by kernel_rfl
  have w2 : Try.prog.cellsOf 2 = 1 := by kernel_rfl
  have w22 : Try.prog.cellsOf 22 = 1 := by kernel_rfl
  have : Inhabited RcY := ⟨rc0⟩
  obtain ⟨ys, h1, h2, h3⟩ := open_slV (P := Try.prog) (k := 4) (α := RcY) (by decide) hcell Try.underlying28 rcF rcF_len (fun y => rcSA (cw W.heap.size W) y ∧ fitC y.2) (fun n cs d hcs hd => by
    match cs, hcs with
    | [c0, c1, c2, c3], _ =>
      cases n with
      | zero => simp [DataW.trod] at hd
      | succ n =>
        rw [DataW.trod_step] at hd
        unfold DataW.trodStep at hd
        rw [Try.underlying35] at hd
        simp only [hcell, w9, w2, w22, List.length_cons, List.length_nil, List.mapM_cons, List.mapM_nil, List.drop_zero, List.drop_succ_cons, List.take_succ_cons, List.take_zero, if_true, Option.bind_eq_bind, Option.map_eq_some_iff, Option.bind_eq_some_iff, Option.pure_def] at hd
        obtain ⟨_, ⟨x0, h0, _, ⟨x1, h1, _, ⟨x2, h2, _, ⟨x3, h3, -⟩, -⟩, -⟩, -⟩, -⟩ := hd
        obtain ⟨s, rfl, hs⟩ := trod_string Try.underlying9 h0
        obtain ⟨st, rfl⟩ := trod_int Try.underlying2 h1
        obtain ⟨sp, rfl⟩ := trod_int Try.underlying2 h2
        have sl : (∃ a n k, c3 = .slice a n k) ∧ c3.cells.toList = [c3] := by
          rcases Deep.open_slice Try.underlying22 h3 with ⟨h1, -⟩ | ⟨a, len, cap, m, n, D, Pl, h1, -⟩
          · cases h1; exact ⟨⟨_, _, _, rfl⟩, rfl⟩
          · cases h1; exact ⟨⟨_, _, _, rfl⟩, rfl⟩
        obtain ⟨s3, t3⟩ := sl
        obtain ⟨xs, hx, lx, bx⟩ := open_f32g s3 (by rw [t3]; exact h3)
        obtain ⟨a, c, rfl, -⟩ := hx.form
        exact ⟨((a, c), ⟨s, st, sp, xs⟩), rfl, by simp [Value.oneCell'], hx, hs, lx, bx⟩) hv h
  exact ⟨ys, ⟨h1, fun j hj => (h3 _ (gD_mem hj)).1⟩, h2, fun j hj => (h3 _ (gD_mem hj)).2⟩
end Go.Proofs.Ytkbcbbcacabelaa
