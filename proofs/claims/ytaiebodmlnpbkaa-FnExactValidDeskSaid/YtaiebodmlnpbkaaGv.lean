/- Arguments that are desks, opened. -/
import Derived.Test.YtaiebodmlnpbkaaGr
import Derived.Test.YtaiebodmlnpbkaaGq
import Derived.Test.YtaiebodmlnpbkaaNb
namespace Go.Proofs.Ytaiebodmlnpbkaa
set_option linter.unusedSimpArgs false
set_option linter.unusedVariables false
open Go Cn Go.ChangeShapes Go.WideShapes Go.ChangeAt Go.RowKit
/-- a desk among the arguments -/
def DskA (W : World) (v : Value) (d : Dsk) : Prop := ∃ a c p1 k1 p2 k2 p3 k3, v = dskV d a c p1 k1 p2 k2 p3 k3 ∧ DkS W d a c p1 k1 p2 k2 p3 k3
structure Dsk.fits (d : Dsk) : Prop where
  hs : d.hs.length ≤ 9223372036854775807
  r : d.r.fits
  bh : Bd d.hs
  bs : Bd [d.s0, d.s1, d.s2, d.s3, d.s4]
  bt : Bd [d.t0, d.t1, d.t2, d.t3]
theorem DskA.below {A W : World} {v : Value} {d : Dsk} (h : DskA A v d) (hb : Below A.heap.size A W) : DskA W v d := by
  obtain ⟨a, c, p1, k1, p2, k2, p3, k3, h1, h2⟩ := h
  exact ⟨a, c, p1, k1, p2, k2, p3, k3, h1, h2.below hb⟩
section
variable {H : Type} {enc : TypeId × Value → H} {P : Program} {W : World} {base b0 : Nat} {spare : Nat → Bool} {held : Bool}
theorem trod_f32 {n : Nat} {t : TypeId} {v : Value} {x : DataW H × List MemPlace} (ht : P.underlying t = some (.float .f32)) (h : DataW.trod enc P W b0 spare held n t [v] = some x) : ∃ y, v = .float .f32 y ∧ y < 4294967296 := by
  cases n with
  | zero => simp [DataW.trod] at h
  | succ n =>
    rw [DataW.trod_step] at h
    unfold DataW.trodStep at h
    rw [ht] at h
    cases v with
    | float k y =>
      simp only [Option.ite_none_right_eq_some] at h
      obtain ⟨⟨e1, e2⟩, -⟩ := h
      subst e1
      exact ⟨y, rfl, by simpa [Lit.wf] using e2⟩
    | _ => simp at h
theorem trod_sl {n : Nat} {t e : TypeId} {c : Value} {x : DataW H × List MemPlace} (ht : P.underlying t = some (.slice e)) (h : DataW.trod enc P W 0 (fun _ => true) true n t [c] = some x) : (∃ a n k, c = .slice a n k) ∧ c.cells.toList = [c] := by
  rcases Deep.open_slice ht h with ⟨h1, -⟩ | ⟨a, len, cap, m, n, D, Pl, h1, -⟩
  · cases h1; exact ⟨⟨_, _, _, rfl⟩, rfl⟩
  · cases h1; exact ⟨⟨_, _, _, rfl⟩, rfl⟩
end
set_option maxRecDepth 100000 in
theorem open_hillC {H : Type} {enc : TypeId × Value → H} {W : World} {m : Nat} {c0 c1 c2 : Value} {x : DataW H × List MemPlace} (h : DataW.trod enc Try.prog W 0 (fun _ => true) true m 59 [c0, c1, c2] = some x) :
    ∃ w hh n y, c0 = .int .i64 w ∧ c1 = .int .i64 hh ∧ DataW.trod enc Try.prog W 0 (fun _ => true) true n 22 [c2] = some y := by
  have hcell : Try.prog.cellsOf 59 = 3 := by kernel_rfl
  have w1 : Try.prog.cellsOf 2 = 1 := by kernel_rfl
  have w2 : Try.prog.cellsOf 22 = 1 := by kernel_rfl
  cases m with
  | zero => simp [DataW.trod] at h
  | succ n =>
    rw [DataW.trod_step] at h
    unfold DataW.trodStep at h
    rw [Try.underlying59] at h
    simp only [hcell, w1, w2, List.length_cons, List.length_nil, List.mapM_cons, List.mapM_nil, List.drop_zero, List.drop_succ_cons, List.take_succ_cons, List.take_zero, if_true, Option.bind_eq_bind, Option.map_eq_some_iff, Option.bind_eq_some_iff, Option.pure_def] at h
    obtain ⟨_, ⟨x0, h0, _, ⟨x1, h1, _, ⟨x2, h2, -⟩, -⟩, -⟩, -⟩ := h
    obtain ⟨w, rfl⟩ := trod_int Try.underlying2 h0
    obtain ⟨hh, rfl⟩ := trod_int Try.underlying2 h1
    exact ⟨w, hh, n, x2, rfl, rfl, h2⟩
set_option maxRecDepth 100000 in
theorem open_soilC {H : Type} {enc : TypeId × Value → H} {W : World} {m : Nat} {c0 c1 c2 c3 c4 : Value} {x : DataW H × List MemPlace} (h : DataW.trod enc Try.prog W 0 (fun _ => true) true m 60 [c0, c1, c2, c3, c4] = some x) :
    ∃ y0 y1 y2 y3 y4, c0 = .float .f32 y0 ∧ c1 = .float .f32 y1 ∧ c2 = .float .f32 y2 ∧ c3 = .float .f32 y3 ∧ c4 = .float .f32 y4 ∧ Bd [y0, y1, y2, y3, y4] := by
  have hcell : Try.prog.cellsOf 60 = 5 := by kernel_rfl
  have w1 : Try.prog.cellsOf 33 = 1 := by kernel_rfl
  cases m with
  | zero => simp [DataW.trod] at h
  | succ n =>
    rw [DataW.trod_step] at h
    unfold DataW.trodStep at h
    rw [Try.underlying60] at h
    simp only [hcell, w1, List.length_cons, List.length_nil, List.mapM_cons, List.mapM_nil, List.drop_zero, List.drop_succ_cons, List.take_succ_cons, List.take_zero, if_true, Option.bind_eq_bind, Option.map_eq_some_iff, Option.bind_eq_some_iff, Option.pure_def] at h
    obtain ⟨_, ⟨x0, h0, _, ⟨x1, h1, _, ⟨x2, h2, _, ⟨x3, h3, _, ⟨x4, h4, -⟩, -⟩, -⟩, -⟩, -⟩, -⟩ := h
    obtain ⟨y0, rfl, b0⟩ := trod_f32 Try.underlying33 h0
    obtain ⟨y1, rfl, b1⟩ := trod_f32 Try.underlying33 h1
    obtain ⟨y2, rfl, b2⟩ := trod_f32 Try.underlying33 h2
    obtain ⟨y3, rfl, b3⟩ := trod_f32 Try.underlying33 h3
    obtain ⟨y4, rfl, b4⟩ := trod_f32 Try.underlying33 h4
    refine ⟨y0, y1, y2, y3, y4, rfl, rfl, rfl, rfl, rfl, ?_⟩
    intro z hz
    simp only [List.mem_cons, List.mem_nil_iff, or_false] at hz
    rcases hz with rfl | rfl | rfl | rfl | rfl <;> assumption
set_option maxRecDepth 100000 in
theorem open_sectC {H : Type} {enc : TypeId × Value → H} {W : World} {m : Nat} {c0 c1 c2 c3 : Value} {x : DataW H × List MemPlace} (h : DataW.trod enc Try.prog W 0 (fun _ => true) true m 61 [c0, c1, c2, c3] = some x) :
    ∃ y0 y1 y2 y3, c0 = .float .f32 y0 ∧ c1 = .float .f32 y1 ∧ c2 = .float .f32 y2 ∧ c3 = .float .f32 y3 ∧ Bd [y0, y1, y2, y3] := by
  have hcell : Try.prog.cellsOf 61 = 4 := by kernel_rfl
  have w1 : Try.prog.cellsOf 33 = 1 := by kernel_rfl
  cases m with
  | zero => simp [DataW.trod] at h
  | succ n =>
    rw [DataW.trod_step] at h
    unfold DataW.trodStep at h
    rw [Try.underlying61] at h
    simp only [hcell, w1, List.length_cons, List.length_nil, List.mapM_cons, List.mapM_nil, List.drop_zero, List.drop_succ_cons, List.take_succ_cons, List.take_zero, if_true, Option.bind_eq_bind, Option.map_eq_some_iff, Option.bind_eq_some_iff, Option.pure_def] at h
    obtain ⟨_, ⟨x0, h0, _, ⟨x1, h1, _, ⟨x2, h2, _, ⟨x3, h3, -⟩, -⟩, -⟩, -⟩, -⟩ := h
    obtain ⟨y0, rfl, b0⟩ := trod_f32 Try.underlying33 h0
    obtain ⟨y1, rfl, b1⟩ := trod_f32 Try.underlying33 h1
    obtain ⟨y2, rfl, b2⟩ := trod_f32 Try.underlying33 h2
    obtain ⟨y3, rfl, b3⟩ := trod_f32 Try.underlying33 h3
    refine ⟨y0, y1, y2, y3, rfl, rfl, rfl, rfl, ?_⟩
    intro z hz
    simp only [List.mem_cons, List.mem_nil_iff, or_false] at hz
    rcases hz with rfl | rfl | rfl | rfl <;> assumption
set_option maxRecDepth 100000 in
theorem open_rivC {H : Type} {enc : TypeId × Value → H} {W : World} {m : Nat} {c0 c1 c2 : Value} {x : DataW H × List MemPlace} (h : DataW.trod enc Try.prog W 0 (fun _ => true) true m 64 [c0, c1, c2] = some x) :
    ∃ r p1 k1 p2 k2 p3 k3, c0 = .slice p1 (Riv.ds r).length k1 ∧ c1 = .slice p2 r.dm.length k2 ∧ c2 = .slice p3 r.ws.length k3 ∧ RvS (cw W.heap.size W) p1 k1 p2 k2 p3 k3 r ∧ r.fits := by
  have hcell : Try.prog.cellsOf 64 = 3 := by kernel_rfl
  have w1 : Try.prog.cellsOf 49 = 1 := by kernel_rfl
  have w2 : Try.prog.cellsOf 62 = 1 := by kernel_rfl
  cases m with
  | zero => simp [DataW.trod] at h
  | succ n =>
    rw [DataW.trod_step] at h
    unfold DataW.trodStep at h
    rw [Try.underlying64] at h
    simp only [hcell, w1, w2, List.length_cons, List.length_nil, List.mapM_cons, List.mapM_nil, List.drop_zero, List.drop_succ_cons, List.take_succ_cons, List.take_zero, if_true, Option.bind_eq_bind, Option.map_eq_some_iff, Option.bind_eq_some_iff, Option.pure_def] at h
    obtain ⟨_, ⟨x0, h0, _, ⟨x1, h1, _, ⟨x2, h2, -⟩, -⟩, -⟩, -⟩ := h
    obtain ⟨s0, t0⟩ := trod_sl Try.underlying49 h0
    obtain ⟨s1, t1⟩ := trod_sl Try.underlying62 h1
    obtain ⟨s2, t2⟩ := trod_sl Try.underlying49 h2
    obtain ⟨xs, hx, lx⟩ := open_i64s (by kernel_rfl) Try.underlying49 Try.underlying2 s0 (by rw [t0]; exact h0)
    obtain ⟨ds, hd, ld⟩ := open_dams s1 (by rw [t1]; exact h1)
    obtain ⟨ws, hw, lw⟩ := open_i64s (by kernel_rfl) Try.underlying49 Try.underlying2 s2 (by rw [t2]; exact h2)
    obtain ⟨a1, k1, rfl, -⟩ := hx.form
    obtain ⟨a2, k2, rfl, -⟩ := SlD.form hd
    obtain ⟨a3, k3, rfl, -⟩ := hw.form
    exact ⟨⟨xs, ds, ws⟩, a1, k1, a2, k2, a3, k3, rfl, rfl, rfl, ⟨hx, hd, hw⟩, lx, ld, lw⟩
set_option maxRecDepth 100000 in
theorem open_desk {H : Type} {enc : TypeId × Value → H} {W : World} {base m : Nat} {v : Value} {x : DataW H × List MemPlace} (hk : Value.okWide Try.prog W .any base 66 v) (h : DataW.trod enc Try.prog W 0 (fun _ => true) true m 66 v.cells.toList = some x) :
    ∃ d, DskA (cw W.heap.size W) (cv v) d ∧ d.fits := by
  have hcell : Try.prog.cellsOf 66 = 15 := by kernel_rfl
  have hct : Try.prog.cellTypes Try.prog.depth 66 = some [2, 2, 22, 33, 33, 33, 33, 33, 33, 33, 33, 33, 49, 62, 49] := by kernel_rfl
  have wH : Try.prog.cellsOf 59 = 3 := by kernel_rfl
  have wS : Try.prog.cellsOf 60 = 5 := by kernel_rfl
  have wC : Try.prog.cellsOf 61 = 4 := by kernel_rfl
  have wR : Try.prog.cellsOf 64 = 3 := by kernel_rfl
  have hk' := hk
  obtain ⟨cs, rfl, hsz⟩ := okWide_struct Try.underlying66 hk
  simp only [Value.okWide, Try.underlying66] at hk'
  obtain ⟨cs', he, -, ts, hts, -, hrow⟩ := hk'
  cases he
  rw [hct] at hts
  cases hts
  rw [hcell] at hsz
  obtain ⟨l⟩ := cs
  match l, hsz with
  | [c0, c1, c2, c3, c4, c5, c6, c7, c8, c9, c10, c11, c12, c13, c14], _ =>
    cases m with
    | zero => simp [DataW.trod] at h
    | succ n =>
      rw [DataW.trod_step] at h
      unfold DataW.trodStep at h
      rw [Try.underlying66] at h
      simp only [Value.cells, hcell, wH, wS, wC, wR, List.length_cons, List.length_nil, List.mapM_cons, List.mapM_nil, List.drop_zero, List.drop_succ_cons, List.take_succ_cons, List.take_zero, if_true, Option.bind_eq_bind, Option.map_eq_some_iff, Option.bind_eq_some_iff, Option.pure_def] at h
      obtain ⟨_, ⟨x0, h0, _, ⟨x1, h1, _, ⟨x2, h2, _, ⟨x3, h3, -⟩, -⟩, -⟩, -⟩, -⟩ := h
      obtain ⟨w, hh, n2, y2, rfl, rfl, hsl⟩ := open_hillC h0
      obtain ⟨s0, s1, s2, s3, s4, rfl, rfl, rfl, rfl, rfl, bs⟩ := open_soilC h1
      obtain ⟨t0, t1, t2, t3, rfl, rfl, rfl, rfl, bt⟩ := open_sectC h2
      obtain ⟨r, p1, k1, p2, k2, p3, k3, rfl, rfl, rfl, hr, hf⟩ := open_rivC h3
      obtain ⟨u, hu, hcw⟩ := hrow 2 c2 rfl
      cases hu
      have hkw := okWide_of_cell Try.underlying22 hcw
      obtain ⟨-, tc⟩ := trod_sl Try.underlying22 hsl
      obtain ⟨a, q, c, rfl⟩ := okWide_slice Try.underlying22 hkw
      obtain ⟨xs, hx, hlen, hbd⟩ := open_f32s' Try.underlying22 Try.underlying33 (by kernel_rfl) hkw (by rw [tc]; exact hsl)
      obtain ⟨a', c', he⟩ := hx.form
      cases he
      have cbB : ∀ {ys : List Nat}, Bd ys → Bd (ys.map (cb .f32)) := fun h z hz => by
        obtain ⟨y, hy, rfl⟩ := List.mem_map.1 hz
        exact cb_lt (h y hy)
      exact ⟨⟨w, hh, xs, cb .f32 s0, cb .f32 s1, cb .f32 s2, cb .f32 s3, cb .f32 s4, cb .f32 t0, cb .f32 t1, cb .f32 t2, cb .f32 t3, r⟩, ⟨a, c, p1, k1, p2, k2, p3, k3, by simp [cv, Cn.c1, cl], ⟨hx, hr⟩⟩, ⟨hlen, hf, hbd, cbB bs, cbB bt⟩⟩
end Go.Proofs.Ytaiebodmlnpbkaa
