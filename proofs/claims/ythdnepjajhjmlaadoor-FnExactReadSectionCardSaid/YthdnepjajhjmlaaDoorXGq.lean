/- Arguments that are dams and rivers, opened. -/
import Derived.Test.YthdnepjajhjmlaaDoorGz
import Derived.Test.YthdnepjajhjmlaaDoorXRd
namespace Go.Proofs.YthdnepjajhjmlaaDoor
set_option linter.unusedSimpArgs false
set_option linter.unusedVariables false
open Go Cn Go.ChangeShapes Go.WideShapes Go.ChangeAt Go.RowKit
instance : Inhabited Dm := ⟨dm0⟩
set_option maxRecDepth 100000 in
theorem open_dams {H : Type} {enc : TypeId × Value → H} {W : World} {fuel : Nat} {v : Value} {x : DataW H × List MemPlace} (hv : ∃ a n c, v = .slice a n c) (h : DataW.trod enc Tryd.prog W 0 (fun _ => true) true fuel 35 v.cells.toList = some x) :
    ∃ ds, SlD (cw W.heap.size W) v ds ∧ ds.length ≤ 9223372036854775807 := by
  have w4 : Tryd.prog.cellsOf 152 = 4 := by kernel_rfl
  have w1 : Tryd.prog.cellsOf 2 = 1 := by kernel_rfl
  obtain ⟨ys, h1, h2, -⟩ := open_slV (P := Tryd.prog) (k := 4) (α := Dm) (by decide) w4 Tryd.underlying35 dC dC_len (fun _ => True) (fun n cs d hcs hd => by
    match cs, hcs with
    | [c0, c1, c2, c3], _ =>
      cases n with
      | zero => simp [DataW.trod] at hd
      | succ n =>
        rw [DataW.trod_step] at hd
        unfold DataW.trodStep at hd
        rw [Tryd.underlying152] at hd
        simp only [w4, w1, List.length_cons, List.length_nil, List.mapM_cons, List.mapM_nil, List.drop_zero, List.drop_succ_cons, List.take_succ_cons, List.take_zero, if_true, Option.bind_eq_bind, Option.map_eq_some_iff, Option.bind_eq_some_iff, Option.pure_def] at hd
        obtain ⟨_, ⟨x0, e0, _, ⟨x1, e1, _, ⟨x2, e2, _, ⟨x3, e3, -⟩, -⟩, -⟩, -⟩, -⟩ := hd
        obtain ⟨z0, rfl⟩ := trod_i64 Tryd.underlying2 e0
        obtain ⟨z1, rfl⟩ := trod_i64 Tryd.underlying2 e1
        obtain ⟨z2, rfl⟩ := trod_i64 Tryd.underlying2 e2
        obtain ⟨z3, rfl⟩ := trod_i64 Tryd.underlying2 e3
        exact ⟨⟨z0, z1, z2, z3⟩, rfl, by simp [Value.oneCell'], trivial⟩) hv h
  exact ⟨ys, h1, h2⟩
def RivA (W : World) (v : Value) (r : Riv) : Prop := ∃ p1 k1 p2 k2 p3 k3, v = rvV p1 k1 p2 k2 p3 k3 r ∧ RvS W p1 k1 p2 k2 p3 k3 r
def Riv.fits (r : Riv) : Prop := r.ds.length ≤ 9223372036854775807 ∧ r.dm.length ≤ 9223372036854775807 ∧ r.ws.length ≤ 9223372036854775807
set_option maxRecDepth 100000 in
theorem open_riv {H : Type} {enc : TypeId × Value → H} {W : World} {base m : Nat} {v : Value} {x : DataW H × List MemPlace} (hk : Value.okWide Tryd.prog W .any base 37 v) (h : DataW.trod enc Tryd.prog W 0 (fun _ => true) true m 37 v.cells.toList = some x) :
    ∃ r, RivA (cw W.heap.size W) (cv v) r ∧ r.fits := by
  have hcell : Tryd.prog.cellsOf 37 = 3 := by kernel_rfl
  have w1 : Tryd.prog.cellsOf 34 = 1 := by kernel_rfl
  have w2 : Tryd.prog.cellsOf 35 = 1 := by kernel_rfl
  obtain ⟨cs, rfl, hsz⟩ := okWide_struct Tryd.underlying37 hk
  rw [hcell] at hsz
  obtain ⟨l⟩ := cs
  match l, hsz with
  | [c0, c1, c2], _ =>
    cases m with
    | zero => simp [DataW.trod] at h
    | succ n =>
      rw [DataW.trod_step] at h
      unfold DataW.trodStep at h
      rw [Tryd.underlying37] at h
      simp only [Value.cells, hcell, w1, w2, List.length_cons, List.length_nil, List.mapM_cons, List.mapM_nil, List.drop_zero, List.drop_succ_cons, List.take_succ_cons, List.take_zero, if_true, Option.bind_eq_bind, Option.map_eq_some_iff, Option.bind_eq_some_iff, Option.pure_def] at h
      obtain ⟨_, ⟨x0, h0, _, ⟨x1, h1, _, ⟨x2, h2, -⟩, -⟩, -⟩, -⟩ := h
      have sl : ∀ {n : Nat} {t e : TypeId} {c : Value} {x : DataW H × List MemPlace}, Tryd.prog.underlying t = some (.slice e) → DataW.trod enc Tryd.prog W 0 (fun _ => true) true n t [c] = some x → (∃ a n k, c = .slice a n k) ∧ c.cells.toList = [c] := by
        intro n t e c x ht h
        rcases Deep.open_slice ht h with ⟨h1, -⟩ | ⟨a, len, cap, m, n, D, Pl, h1, -⟩
        · cases h1; exact ⟨⟨_, _, _, rfl⟩, rfl⟩
        · cases h1; exact ⟨⟨_, _, _, rfl⟩, rfl⟩
      obtain ⟨s0, t0⟩ := sl Tryd.underlying34 h0
      obtain ⟨s1, t1⟩ := sl Tryd.underlying35 h1
      obtain ⟨s2, t2⟩ := sl Tryd.underlying34 h2
      obtain ⟨xs, hx, lx⟩ := open_i64s (by kernel_rfl) Tryd.underlying34 Tryd.underlying2 s0 (by rw [t0]; exact h0)
      obtain ⟨ds, hd, ld⟩ := open_dams s1 (by rw [t1]; exact h1)
      obtain ⟨ws, hw, lw⟩ := open_i64s (by kernel_rfl) Tryd.underlying34 Tryd.underlying2 s2 (by rw [t2]; exact h2)
      obtain ⟨a1, k1, rfl, -⟩ := hx.form
      obtain ⟨a2, k2, rfl, -⟩ := SlD.form hd
      obtain ⟨a3, k3, rfl, -⟩ := hw.form
      exact ⟨⟨xs, ds, ws⟩, ⟨a1, k1, a2, k2, a3, k3, by simp [cv, Cn.c1, cl, rvV], ⟨hx, hd, hw⟩⟩, lx, ld, lw⟩
end Go.Proofs.YthdnepjajhjmlaaDoor
