/- Arguments that are lists of rivers, opened. -/
import Derived.Test.YtgkmonllkfgbdaaGq
import Derived.Test.YtgkmonllkfgbdaaSb
namespace Go.Proofs.Ytgkmonllkfgbdaa
set_option linter.unusedSimpArgs false
set_option linter.unusedVariables false
open Go Cn Go.ChangeShapes Go.WideShapes Go.ChangeAt Go.RowKit
set_option maxRecDepth 100000 in
theorem open_rivs {H : Type} {enc : TypeId × Value → H} {W : World} {fuel : Nat} {v : Value} {x : DataW H × List MemPlace} (hv : ∃ a n c, v = .slice a n c) (h : DataW.trod enc Try.prog W 0 (fun _ => true) true fuel 53 v.cells.toList = some x) :
    ∃ ys, SlY (cw W.heap.size W) v ys ∧ fitsY ys := by
  have hcell : Try.prog.cellsOf 25 = 3 := by kernel_rfl
  have w1 : Try.prog.cellsOf 22 = 1 := by kernel_rfl
  have w2 : Try.prog.cellsOf 23 = 1 := by kernel_rfl
  have : Inhabited RvY := ⟨ry0⟩
  obtain ⟨ys, h1, h2, h3⟩ := open_slV (P := Try.prog) (k := 3) (α := RvY) (by decide) hcell Try.underlying53 ryF ryF_len (fun y => ryS (cw W.heap.size W) y ∧ y.2.fits) (fun n cs d hcs hd => by
    match cs, hcs with
    | [c0, c1, c2], _ =>
      cases n with
      | zero => simp [DataW.trod] at hd
      | succ n =>
        rw [DataW.trod_step] at hd
        unfold DataW.trodStep at hd
        rw [Try.underlying25] at hd
        simp only [hcell, w1, w2, List.length_cons, List.length_nil, List.mapM_cons, List.mapM_nil, List.drop_zero, List.drop_succ_cons, List.take_succ_cons, List.take_zero, if_true, Option.bind_eq_bind, Option.map_eq_some_iff, Option.bind_eq_some_iff, Option.pure_def] at hd
        obtain ⟨_, ⟨x0, h0, _, ⟨x1, h1, _, ⟨x2, h2, -⟩, -⟩, -⟩, -⟩ := hd
        have sl : ∀ {n : Nat} {t e : TypeId} {c : Value} {x : DataW H × List MemPlace}, Try.prog.underlying t = some (.slice e) → DataW.trod enc Try.prog W 0 (fun _ => true) true n t [c] = some x → (∃ a n k, c = .slice a n k) ∧ c.cells.toList = [c] := by
          intro n t e c x ht h
          rcases Deep.open_slice ht h with ⟨h1, -⟩ | ⟨a, len, cap, m, n, D, Pl, h1, -⟩
          · cases h1; exact ⟨⟨_, _, _, rfl⟩, rfl⟩
          · cases h1; exact ⟨⟨_, _, _, rfl⟩, rfl⟩
        obtain ⟨s0, t0⟩ := sl Try.underlying22 h0
        obtain ⟨s1, t1⟩ := sl Try.underlying23 h1
        obtain ⟨s2, t2⟩ := sl Try.underlying22 h2
        obtain ⟨xs, hx, lx⟩ := open_i64s (by kernel_rfl) Try.underlying22 Try.underlying2 s0 (by rw [t0]; exact h0)
        obtain ⟨ds, hd, ld⟩ := open_dams s1 (by rw [t1]; exact h1)
        obtain ⟨ws, hw, lw⟩ := open_i64s (by kernel_rfl) Try.underlying22 Try.underlying2 s2 (by rw [t2]; exact h2)
        obtain ⟨a1, k1, rfl, -⟩ := hx.form
        obtain ⟨a2, k2, rfl, -⟩ := SlD.form hd
        obtain ⟨a3, k3, rfl, -⟩ := hw.form
        exact ⟨(⟨a1, k1, a2, k2, a3, k3⟩, ⟨xs, ds, ws⟩), rfl, by simp [Value.oneCell'], ⟨hx, hd, hw⟩, lx, ld, lw⟩) hv h
  exact ⟨ys, ⟨h1, fun j hj => (h3 _ (gD_mem hj)).1⟩, h2, fun j hj => (h3 _ (gD_mem hj)).2⟩
end Go.Proofs.Ytgkmonllkfgbdaa
