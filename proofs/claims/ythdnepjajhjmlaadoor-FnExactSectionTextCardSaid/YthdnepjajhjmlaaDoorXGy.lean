/- Desks among arguments: sizes and copies. -/
import Derived.Test.YthdnepjajhjmlaaDoorGz
import Derived.Test.YthdnepjajhjmlaaDoorXFb
import Derived.Test.YthdnepjajhjmlaaDoorXGq
import Derived.Test.YthdnepjajhjmlaaDoorXFj
import Derived.OpenShut
namespace Go.Proofs.YthdnepjajhjmlaaDoor
set_option linter.unusedSimpArgs false
set_option linter.unusedVariables false
open Go Cn Go.ChangeShapes Go.WideShapes Go.ChangeAt Go.RowKit
section
variable {H : Type} {enc : TypeId × Value → H} {P : Program} {W : World} {base b0 : Nat} {spare : Nat → Bool} {held : Bool}
theorem trod_int {n : Nat} {t : TypeId} {k : IntKind} {v : Value} {x : DataW H × List MemPlace} (ht : P.underlying t = some (.int k)) (h : DataW.trod enc P W b0 spare held n t [v] = some x) : ∃ z, v = .int k z := by
  cases n with
  | zero => simp [DataW.trod] at h
  | succ n =>
    rw [DataW.trod_step] at h
    unfold DataW.trodStep at h
    rw [ht] at h
    cases v with
    | int k' z =>
      simp only [Option.ite_none_right_eq_some] at h
      exact ⟨z, by rw [h.1.1]⟩
    | _ => simp at h
theorem okWide_of_cell {t e : TypeId} {v : Value} (ht : P.underlying t = some (.slice e)) (h : Cell.okWide P W .any base t v) : Value.okWide P W .any base t v := by
  simp only [Value.okWide, ht]; exact h
end
end Go.Proofs.YthdnepjajhjmlaaDoor
namespace Go.Proofs.YthdnepjajhjmlaaDoor
set_option linter.unusedSimpArgs false
set_option linter.unusedVariables false
open Go Cn Go.ChangeShapes Go.WideShapes Go.ChangeAt Go.RowKit
end Go.Proofs.YthdnepjajhjmlaaDoor
namespace Go.Proofs.YthdnepjajhjmlaaDoor
set_option linter.unusedSimpArgs false
set_option linter.unusedVariables false
open Go Cn Go.ChangeShapes Go.WideShapes Go.ChangeAt Go.RowKit
/-- a desk among the arguments -/
def DskA (W : World) (v : Value) (d : Dsk) : Prop := ∃ a c p1 k1 p2 k2 p3 k3, v = dskV d a c p1 k1 p2 k2 p3 k3 ∧ DkS W d a c p1 k1 p2 k2 p3 k3
structure Dsk.fits (d : Dsk) : Prop where
  hs : d.hs.length ≤ 9223372036854775807
  r : d.r.fits
  bh : Bd d.hs
  bs : Bd [d.s0, d.s1, d.s2, d.s3, d.s4]
  bt : Bd [d.t0, d.t1, d.t2, d.t3]
theorem DskA.below {A W : World} {v : Value} {d : Dsk} (h : DskA A v d) (hb : Below A.heap.size A W) : DskA W v d := by
  obtain ⟨a, c, p1, k1, p2, k2, p3, k3, h1, h2⟩ := h
  exact ⟨a, c, p1, k1, p2, k2, p3, k3, h1, h2.below hb⟩
section
variable {H : Type} {enc : TypeId × Value → H} {P : Program} {W : World} {base b0 : Nat} {spare : Nat → Bool} {held : Bool}
theorem trod_f32 {n : Nat} {t : TypeId} {v : Value} {x : DataW H × List MemPlace} (ht : P.underlying t = some (.float .f32)) (h : DataW.trod enc P W b0 spare held n t [v] = some x) : ∃ y, v = .float .f32 y ∧ y < 4294967296 := by
  cases n with
  | zero => simp [DataW.trod] at h
  | succ n =>
    rw [DataW.trod_step] at h
    unfold DataW.trodStep at h
    rw [ht] at h
    cases v with
    | float k y =>
      simp only [Option.ite_none_right_eq_some] at h
      obtain ⟨⟨e1, e2⟩, -⟩ := h
      subst e1
      exact ⟨y, rfl, by simpa [Lit.wf] using e2⟩
    | _ => simp at h
theorem trod_sl {n : Nat} {t e : TypeId} {c : Value} {x : DataW H × List MemPlace} (ht : P.underlying t = some (.slice e)) (h : DataW.trod enc P W 0 (fun _ => true) true n t [c] = some x) : (∃ a n k, c = .slice a n k) ∧ c.cells.toList = [c] := by
  rcases Deep.open_slice ht h with ⟨h1, -⟩ | ⟨a, len, cap, m, n, D, Pl, h1, -⟩
  · cases h1; exact ⟨⟨_, _, _, rfl⟩, rfl⟩
  · cases h1; exact ⟨⟨_, _, _, rfl⟩, rfl⟩
end
set_option maxRecDepth 100000 in
theorem open_hillC {H : Type} {enc : TypeId × Value → H} {W : World} {m : Nat} {c0 c1 c2 : Value} {x : DataW H × List MemPlace} (h : DataW.trod enc Tryd.prog W 0 (fun _ => true) true m 64 [c0, c1, c2] = some x) :
    ∃ w hh n y, c0 = .int .i64 w ∧ c1 = .int .i64 hh ∧ DataW.trod enc Tryd.prog W 0 (fun _ => true) true n 62 [c2] = some y := by
  have hcell : Tryd.prog.cellsOf 64 = 3 := by kernel_rfl
  have w1 : Tryd.prog.cellsOf 2 = 1 := by kernel_rfl
  have w2 : Tryd.prog.cellsOf 62 = 1 := by kernel_rfl
  cases m with
  | zero => simp [DataW.trod] at h
  | succ n =>
    rw [DataW.trod_step] at h
    unfold DataW.trodStep at h
    rw [Tryd.underlying64] at h
    simp only [hcell, w1, w2, List.length_cons, List.length_nil, List.mapM_cons, List.mapM_nil, List.drop_zero, List.drop_succ_cons, List.take_succ_cons, List.take_zero, if_true, Option.bind_eq_bind, Option.map_eq_some_iff, Option.bind_eq_some_iff, Option.pure_def] at h
    obtain ⟨_, ⟨x0, h0, _, ⟨x1, h1, _, ⟨x2, h2, -⟩, -⟩, -⟩, -⟩ := h
    obtain ⟨w, rfl⟩ := trod_int Tryd.underlying2 h0
    obtain ⟨hh, rfl⟩ := trod_int Tryd.underlying2 h1
    exact ⟨w, hh, n, x2, rfl, rfl, h2⟩
set_option maxRecDepth 100000 in
theorem open_soilC {H : Type} {enc : TypeId × Value → H} {W : World} {m : Nat} {c0 c1 c2 c3 c4 : Value} {x : DataW H × List MemPlace} (h : DataW.trod enc Tryd.prog W 0 (fun _ => true) true m 51 [c0, c1, c2, c3, c4] = some x) :
    ∃ y0 y1 y2 y3 y4, c0 = .float .f32 y0 ∧ c1 = .float .f32 y1 ∧ c2 = .float .f32 y2 ∧ c3 = .float .f32 y3 ∧ c4 = .float .f32 y4 ∧ Bd [y0, y1, y2, y3, y4] := by
  have hcell : Tryd.prog.cellsOf 51 = 5 := by kernel_rfl
  have w1 : Tryd.prog.cellsOf 49 = 1 := by kernel_rfl
  cases m with
  | zero => simp [DataW.trod] at h
  | succ n =>
    rw [DataW.trod_step] at h
    unfold DataW.trodStep at h
    rw [Tryd.underlying51] at h
    simp only [hcell, w1, List.length_cons, List.length_nil, List.mapM_cons, List.mapM_nil, List.drop_zero, List.drop_succ_cons, List.take_succ_cons, List.take_zero, if_true, Option.bind_eq_bind, Option.map_eq_some_iff, Option.bind_eq_some_iff, Option.pure_def] at h
    obtain ⟨_, ⟨x0, h0, _, ⟨x1, h1, _, ⟨x2, h2, _, ⟨x3, h3, _, ⟨x4, h4, -⟩, -⟩, -⟩, -⟩, -⟩, -⟩ := h
    obtain ⟨y0, rfl, b0⟩ := trod_f32 Tryd.underlying49 h0
    obtain ⟨y1, rfl, b1⟩ := trod_f32 Tryd.underlying49 h1
    obtain ⟨y2, rfl, b2⟩ := trod_f32 Tryd.underlying49 h2
    obtain ⟨y3, rfl, b3⟩ := trod_f32 Tryd.underlying49 h3
    obtain ⟨y4, rfl, b4⟩ := trod_f32 Tryd.underlying49 h4
    refine ⟨y0, y1, y2, y3, y4, rfl, rfl, rfl, rfl, rfl, ?_⟩
    intro z hz
    simp only [List.mem_cons, List.mem_nil_iff, or_false] at hz
    rcases hz with rfl | rfl | rfl | rfl | rfl <;> assumption
set_option maxRecDepth 100000 in
theorem open_sectC {H : Type} {enc : TypeId × Value → H} {W : World} {m : Nat} {c0 c1 c2 c3 : Value} {x : DataW H × List MemPlace} (h : DataW.trod enc Tryd.prog W 0 (fun _ => true) true m 57 [c0, c1, c2, c3] = some x) :
    ∃ y0 y1 y2 y3, c0 = .float .f32 y0 ∧ c1 = .float .f32 y1 ∧ c2 = .float .f32 y2 ∧ c3 = .float .f32 y3 ∧ Bd [y0, y1, y2, y3] := by
  have hcell : Tryd.prog.cellsOf 57 = 4 := by kernel_rfl
  have w1 : Tryd.prog.cellsOf 49 = 1 := by kernel_rfl
  cases m with
  | zero => simp [DataW.trod] at h
  | succ n =>
    rw [DataW.trod_step] at h
    unfold DataW.trodStep at h
    rw [Tryd.underlying57] at h
    simp only [hcell, w1, List.length_cons, List.length_nil, List.mapM_cons, List.mapM_nil, List.drop_zero, List.drop_succ_cons, List.take_succ_cons, List.take_zero, if_true, Option.bind_eq_bind, Option.map_eq_some_iff, Option.bind_eq_some_iff, Option.pure_def] at h
    obtain ⟨_, ⟨x0, h0, _, ⟨x1, h1, _, ⟨x2, h2, _, ⟨x3, h3, -⟩, -⟩, -⟩, -⟩, -⟩ := h
    obtain ⟨y0, rfl, b0⟩ := trod_f32 Tryd.underlying49 h0
    obtain ⟨y1, rfl, b1⟩ := trod_f32 Tryd.underlying49 h1
    obtain ⟨y2, rfl, b2⟩ := trod_f32 Tryd.underlying49 h2
    obtain ⟨y3, rfl, b3⟩ := trod_f32 Tryd.underlying49 h3
    refine ⟨y0, y1, y2, y3, rfl, rfl, rfl, rfl, ?_⟩
    intro z hz
    simp only [List.mem_cons, List.mem_nil_iff, or_false] at hz
    rcases hz with rfl | rfl | rfl | rfl <;> assumption
end Go.Proofs.YthdnepjajhjmlaaDoor
namespace Go.Proofs.YthdnepjajhjmlaaDoor
set_option linter.unusedSimpArgs false
set_option linter.unusedVariables false
open Go Cn Go.ChangeShapes Go.WideShapes Go.ChangeAt Go.RowKit
theorem bd_cb {ys : List Nat} (h : Bd ys) : Bd (ys.map (cb .f32)) := fun z hz => by
  obtain ⟨y, hy, rfl⟩ := List.mem_map.1 hz
  exact cb_lt (h y hy)
def HillA (W : World) (v : Value) (d : Dsk) : Prop := ∃ a c, v = hillV d a c ∧ SlF W (.slice a d.hs.length c) d.hs
theorem HillA.below {A W : World} {v : Value} {d : Dsk} (h : HillA A v d) (hb : Below A.heap.size A W) : HillA W v d := by
  obtain ⟨a, c, h1, h2⟩ := h
  exact ⟨a, c, h1, h2.below hb⟩
set_option maxRecDepth 100000 in
theorem open_soil {H : Type} {enc : TypeId × Value → H} {W : World} {base m : Nat} {v : Value} {x : DataW H × List MemPlace} (hk : Value.okWide Tryd.prog W .any base 51 v) (h : DataW.trod enc Tryd.prog W 0 (fun _ => true) true m 51 v.cells.toList = some x) :
    ∃ d, cv v = soilV d ∧ Bd [d.s0, d.s1, d.s2, d.s3, d.s4] := by
  have hcell : Tryd.prog.cellsOf 51 = 5 := by kernel_rfl
  obtain ⟨cs, rfl, hsz⟩ := okWide_struct Tryd.underlying51 hk
  rw [hcell] at hsz
  obtain ⟨l⟩ := cs
  match l, hsz with
  | [c0, c1, c2, c3, c4], _ =>
    obtain ⟨y0, y1, y2, y3, y4, rfl, rfl, rfl, rfl, rfl, bs⟩ := open_soilC h
    exact ⟨⟨0, 0, [], cb .f32 y0, cb .f32 y1, cb .f32 y2, cb .f32 y3, cb .f32 y4, 0, 0, 0, 0, ⟨[], [], []⟩⟩, by simp [cv, Cn.c1, cl], bd_cb bs⟩
set_option maxRecDepth 100000 in
theorem open_sect {H : Type} {enc : TypeId × Value → H} {W : World} {base m : Nat} {v : Value} {x : DataW H × List MemPlace} (hk : Value.okWide Tryd.prog W .any base 57 v) (h : DataW.trod enc Tryd.prog W 0 (fun _ => true) true m 57 v.cells.toList = some x) :
    ∃ d, cv v = sectV d ∧ Bd [d.t0, d.t1, d.t2, d.t3] := by
  have hcell : Tryd.prog.cellsOf 57 = 4 := by kernel_rfl
  obtain ⟨cs, rfl, hsz⟩ := okWide_struct Tryd.underlying57 hk
  rw [hcell] at hsz
  obtain ⟨l⟩ := cs
  match l, hsz with
  | [c0, c1, c2, c3], _ =>
    obtain ⟨y0, y1, y2, y3, rfl, rfl, rfl, rfl, bs⟩ := open_sectC h
    exact ⟨⟨0, 0, [], 0, 0, 0, 0, 0, cb .f32 y0, cb .f32 y1, cb .f32 y2, cb .f32 y3, ⟨[], [], []⟩⟩, by simp [cv, Cn.c1, cl], bd_cb bs⟩
set_option maxRecDepth 100000 in
theorem open_hill {H : Type} {enc : TypeId × Value → H} {W : World} {base m : Nat} {v : Value} {x : DataW H × List MemPlace} (hk : Value.okWide Tryd.prog W .any base 64 v) (h : DataW.trod enc Tryd.prog W 0 (fun _ => true) true m 64 v.cells.toList = some x) :
    ∃ d, HillA (cw W.heap.size W) (cv v) d ∧ d.hs.length ≤ 9223372036854775807 ∧ Bd d.hs := by
  have hcell : Tryd.prog.cellsOf 64 = 3 := by kernel_rfl
  have hct : Tryd.prog.cellTypes Tryd.prog.depth 64 = some [2, 2, 62] := by kernel_rfl
  have hk' := hk
  obtain ⟨cs, rfl, hsz⟩ := okWide_struct Tryd.underlying64 hk
  simp only [Value.okWide, Tryd.underlying64] at hk'
  obtain ⟨cs', he, -, ts, hts, -, hrow⟩ := hk'
  cases he
  rw [hct] at hts
  cases hts
  rw [hcell] at hsz
  obtain ⟨l⟩ := cs
  match l, hsz with
  | [c0, c1, c2], _ =>
    obtain ⟨w, hh, n2, y2, rfl, rfl, hsl⟩ := open_hillC h
    obtain ⟨u, hu, hcw⟩ := hrow 2 c2 rfl
    cases hu
    have hkw := okWide_of_cell Tryd.underlying62 hcw
    obtain ⟨-, tc⟩ := trod_sl Tryd.underlying62 hsl
    obtain ⟨a, q, c, rfl⟩ := okWide_slice Tryd.underlying62 hkw
    obtain ⟨xs, hx, hlen, hbd⟩ := open_f32s' Tryd.underlying62 Tryd.underlying49 (by kernel_rfl) hkw (by rw [tc]; exact hsl)
    obtain ⟨a', c', he⟩ := hx.form
    cases he
    exact ⟨⟨w, hh, xs, 0, 0, 0, 0, 0, 0, 0, 0, 0, ⟨[], [], []⟩⟩, ⟨a, c, by simp [cv, Cn.c1, cl], hx⟩, hlen, hbd⟩
end Go.Proofs.YthdnepjajhjmlaaDoor
namespace Go.Proofs.YthdnepjajhjmlaaDoor
set_option linter.unusedSimpArgs false
set_option linter.unusedVariables false
open Go Cn Go.RowKit
set_option linter.unusedSimpArgs false
set_option linter.unusedVariables false
section
variable {B : Nat} {A W W' : World} {L L' : List Res} {p1 p2 p3 p4 p5 p6 a a' : Option Addr} {k1 k2 k3 k4 k5 k6 c c' : Nat} {d : Dsk}
theorem hx_szHill (H : Hp B A W L) (hf : d.hs.length ≤ 9223372036854775807) {left : Int} (h0 : 0 ≤ left) (h1 : left ≤ 1048576) :
    ACalls Tryd.prog B 39 [hillV d a c, .int .i64 left] W (fun u W' => u = .int .i64 (if left - d.hs.length < 0 then -1 else left - d.hs.length) ∧ Hp B A W' L) := by
  refine acalls_of Tryd.func39 rfl Tryd.ntmps39 (Nat.le_of_ble_eq_true rfl) ?_
  repeat' (first | refine s_pure tabOk rfl rfl rfl rfl ?_ | refine Stp.imp ?_ | refine aops_nil ?_ | refine aw_reg ?_ | refine aw_seq ?_ | refine s_pass rfl rfl rfl ?_ | refine s_len tabOk rfl rfl rfl rfl ?_ | refine aw_true rfl ?_ | refine aw_false rfl ?_ | refine blk_exit_other rfl ?_ | refine s_arith tabOk rfl rfl rfl rfl (by simp only [InR]; omega) ?_ | ((first | ((fail_if_success refine s_told rfl rfl ?_); refine s_part rfl rfl rfl ?_ ?_) | refine aw_if rfl ?_ ?_) <;> intro hc <;> (first | replace hc := DecT.imp hc | simp only [decs] at hc | skip)) | refine s_index1n tabOk rfl rfl rfl rfl (by omega) ?_ | refine s_indexn tabOk rfl rfl rfl rfl (by omega) ?_ | refine s_index1 tabOk rfl rfl rfl rfl (by omega) (by omega) ?_ | refine sh_load tabOk (by assumption) rfl rfl rfl rfl (by repeat (first | exact List.Mem.head _ | apply List.Mem.tail)) (by rfl) (by rfl) ?_ | refine sh_loadq tabOk (by assumption) rfl rfl rfl rfl (by repeat (first | exact List.Mem.head _ | apply List.Mem.tail)) (by rfl) ?_ | refine sh_loada tabOk (by assumption) rfl rfl rfl rfl (by repeat (first | exact List.Mem.head _ | apply List.Mem.tail)) (by rfl) ?_ | (refine sh_box (by assumption) rfl rfl rfl rfl rfl rfl ?_; intro _ _ _) | (refine sh_alloc tabOk (by assumption) rfl rfl rfl rfl rfl rfl ?_; intro _ _ _) | (refine sh_store tabOk (by assumption) rfl rfl rfl rfl rfl rfl (by repeat (first | exact Upd.here | apply Upd.there)) (by rfl) ?_; intro _ _) | (refine sh_lit tabOk (by assumption) rfl rfl rfl rfl rfl rfl rfl rfl rfl rfl rfl ?_; intro _ _ _) | refine sh_build tabOk rfl rfl rfl rfl rfl rfl ?_)
  refine s_call rfl rfl rfl rfl ent89 (c_laws_szFloat32S hf h0 h1) ?_
  rintro _ _ ⟨rfl, rfl⟩
  unfold szF
  by_cases d1 : left - (d.hs.length : Int) < 0
  · rw [if_pos d1]
    repeat' (first | refine s_pure tabOk rfl rfl rfl rfl ?_ | refine Stp.imp ?_ | refine aops_nil ?_ | refine aw_reg ?_ | refine aw_seq ?_ | refine s_pass rfl rfl rfl ?_ | refine s_len tabOk rfl rfl rfl rfl ?_ | refine aw_true rfl ?_ | refine aw_false rfl ?_ | refine blk_exit_other rfl ?_ | refine s_arith tabOk rfl rfl rfl rfl (by simp only [InR]; omega) ?_ | ((first | ((fail_if_success refine s_told rfl rfl ?_); refine s_part rfl rfl rfl ?_ ?_) | refine aw_if rfl ?_ ?_) <;> intro hc <;> (first | replace hc := DecT.imp hc | simp only [decs] at hc | skip)) | refine s_index1n tabOk rfl rfl rfl rfl (by omega) ?_ | refine s_indexn tabOk rfl rfl rfl rfl (by omega) ?_ | refine s_index1 tabOk rfl rfl rfl rfl (by omega) (by omega) ?_ | refine sh_load tabOk (by assumption) rfl rfl rfl rfl (by repeat (first | exact List.Mem.head _ | apply List.Mem.tail)) (by rfl) (by rfl) ?_ | refine sh_loadq tabOk (by assumption) rfl rfl rfl rfl (by repeat (first | exact List.Mem.head _ | apply List.Mem.tail)) (by rfl) ?_ | refine sh_loada tabOk (by assumption) rfl rfl rfl rfl (by repeat (first | exact List.Mem.head _ | apply List.Mem.tail)) (by rfl) ?_ | (refine sh_box (by assumption) rfl rfl rfl rfl rfl rfl ?_; intro _ _ _) | (refine sh_alloc tabOk (by assumption) rfl rfl rfl rfl rfl rfl ?_; intro _ _ _) | (refine sh_store tabOk (by assumption) rfl rfl rfl rfl rfl rfl (by repeat (first | exact Upd.here | apply Upd.there)) (by rfl) ?_; intro _ _) | (refine sh_lit tabOk (by assumption) rfl rfl rfl rfl rfl rfl rfl rfl rfl rfl rfl ?_; intro _ _ _) | refine sh_build tabOk rfl rfl rfl rfl rfl rfl ?_)
    refine retK_ret tabOk (congrArg Array.toList Tryd.results39) (rv_tmp rfl rfl rv_nil) ?_
    exact ⟨rfl, Hp.sub (by assumption) (List.sublist_cons_self _ _)⟩
  rw [if_neg d1]
  repeat' (first | refine s_pure tabOk rfl rfl rfl rfl ?_ | refine Stp.imp ?_ | refine aops_nil ?_ | refine aw_reg ?_ | refine aw_seq ?_ | refine s_pass rfl rfl rfl ?_ | refine s_len tabOk rfl rfl rfl rfl ?_ | refine aw_true rfl ?_ | refine aw_false rfl ?_ | refine blk_exit_other rfl ?_ | refine s_arith tabOk rfl rfl rfl rfl (by simp only [InR]; omega) ?_ | ((first | ((fail_if_success refine s_told rfl rfl ?_); refine s_part rfl rfl rfl ?_ ?_) | refine aw_if rfl ?_ ?_) <;> intro hc <;> (first | replace hc := DecT.imp hc | simp only [decs] at hc | skip)) | refine s_index1n tabOk rfl rfl rfl rfl (by omega) ?_ | refine s_indexn tabOk rfl rfl rfl rfl (by omega) ?_ | refine s_index1 tabOk rfl rfl rfl rfl (by omega) (by omega) ?_ | refine sh_load tabOk (by assumption) rfl rfl rfl rfl (by repeat (first | exact List.Mem.head _ | apply List.Mem.tail)) (by rfl) (by rfl) ?_ | refine sh_loadq tabOk (by assumption) rfl rfl rfl rfl (by repeat (first | exact List.Mem.head _ | apply List.Mem.tail)) (by rfl) ?_ | refine sh_loada tabOk (by assumption) rfl rfl rfl rfl (by repeat (first | exact List.Mem.head _ | apply List.Mem.tail)) (by rfl) ?_ | (refine sh_box (by assumption) rfl rfl rfl rfl rfl rfl ?_; intro _ _ _) | (refine sh_alloc tabOk (by assumption) rfl rfl rfl rfl rfl rfl ?_; intro _ _ _) | (refine sh_store tabOk (by assumption) rfl rfl rfl rfl rfl rfl (by repeat (first | exact Upd.here | apply Upd.there)) (by rfl) ?_; intro _ _) | (refine sh_lit tabOk (by assumption) rfl rfl rfl rfl rfl rfl rfl rfl rfl rfl rfl ?_; intro _ _ _) | refine sh_build tabOk rfl rfl rfl rfl rfl rfl ?_)
  all_goals try (exfalso; omega)
  refine retK_ret tabOk (congrArg Array.toList Tryd.results39) (rv_tmp rfl rfl rv_nil) ?_
  exact ⟨rfl, Hp.sub (by assumption) (List.sublist_cons_self _ _)⟩
theorem hp_slf {v : Value} {xs : List Nat} (hB : B ≤ W.heap.size) (hv : SlF W v xs) (hl : xs.length ≤ 1048576) :
    ACalls Tryd.prog B 92 [v] W (fun r W' => ∃ b, r = .slice (some ⟨b, 0, none⟩) xs.length xs.length ∧ Hp B W W' [.row 49 1 (.slice (some ⟨b, 0, none⟩) xs.length xs.length) xs.length (xs.map (.float .f32))]) := by
  refine (co_toFloat32S hv hl hB).mono fun r W' h => ?_
  obtain ⟨⟨b, rfl⟩, h1, h2⟩ := h
  exact ⟨b, rfl, hp_of_own hB h2 h1⟩
theorem hx_toHill (hB : B ≤ W.heap.size) (hv : SlF W (.slice a d.hs.length c) d.hs) (hl : d.hs.length ≤ 1048576) :
    ACalls Tryd.prog B 41 [hillV d a c] W (fun u W' => ∃ a c, u = hillV d a c ∧ Hp B W W' [.row 49 1 (.slice a d.hs.length c) d.hs.length (d.hs.map (.float .f32))]) := by
  have H0 : Hp B W W [] := Hp.new hB
  refine acalls_of Tryd.func41 rfl Tryd.ntmps41 (Nat.le_of_ble_eq_true rfl) ?_
  repeat' (first | refine s_pure tabOk rfl rfl rfl rfl ?_ | refine Stp.imp ?_ | refine aops_nil ?_ | refine aw_reg ?_ | refine aw_seq ?_ | refine s_pass rfl rfl rfl ?_ | refine s_len tabOk rfl rfl rfl rfl ?_ | refine aw_true rfl ?_ | refine aw_false rfl ?_ | refine blk_exit_other rfl ?_ | refine s_arith tabOk rfl rfl rfl rfl (by simp only [InR]; omega) ?_ | ((first | ((fail_if_success refine s_told rfl rfl ?_); refine s_part rfl rfl rfl ?_ ?_) | refine aw_if rfl ?_ ?_) <;> intro hc <;> (first | replace hc := DecT.imp hc | simp only [decs] at hc | skip)) | refine s_index1n tabOk rfl rfl rfl rfl (by omega) ?_ | refine s_indexn tabOk rfl rfl rfl rfl (by omega) ?_ | refine s_index1 tabOk rfl rfl rfl rfl (by omega) (by omega) ?_ | refine sh_load tabOk (by assumption) rfl rfl rfl rfl (by repeat (first | exact List.Mem.head _ | apply List.Mem.tail)) (by rfl) (by rfl) ?_ | refine sh_loadq tabOk (by assumption) rfl rfl rfl rfl (by repeat (first | exact List.Mem.head _ | apply List.Mem.tail)) (by rfl) ?_ | refine sh_loada tabOk (by assumption) rfl rfl rfl rfl (by repeat (first | exact List.Mem.head _ | apply List.Mem.tail)) (by rfl) ?_ | (refine sh_box (by assumption) rfl rfl rfl rfl rfl rfl ?_; intro _ _ _) | (refine sh_alloc tabOk (by assumption) rfl rfl rfl rfl rfl rfl ?_; intro _ _ _) | (refine sh_store tabOk (by assumption) rfl rfl rfl rfl rfl rfl (by repeat (first | exact Upd.here | apply Upd.there)) (by rfl) ?_; intro _ _) | (refine sh_lit tabOk (by assumption) rfl rfl rfl rfl rfl rfl rfl rfl rfl rfl rfl ?_; intro _ _ _) | refine sh_build tabOk rfl rfl rfl rfl rfl rfl ?_)
  refine s_call rfl rfl rfl rfl ent92 (hp_slf (Hp.size (by assumption)) (Hp.slFA (by assumption) hv) hl) ?_
  rintro _ W2 ⟨b2, rfl, g2⟩
  have H2 := Hp.call1 (by assumption) g2
  repeat' (first | refine s_pure tabOk rfl rfl rfl rfl ?_ | refine Stp.imp ?_ | refine aops_nil ?_ | refine aw_reg ?_ | refine aw_seq ?_ | refine s_pass rfl rfl rfl ?_ | refine s_len tabOk rfl rfl rfl rfl ?_ | refine aw_true rfl ?_ | refine aw_false rfl ?_ | refine blk_exit_other rfl ?_ | refine s_arith tabOk rfl rfl rfl rfl (by simp only [InR]; omega) ?_ | ((first | ((fail_if_success refine s_told rfl rfl ?_); refine s_part rfl rfl rfl ?_ ?_) | refine aw_if rfl ?_ ?_) <;> intro hc <;> (first | replace hc := DecT.imp hc | simp only [decs] at hc | skip)) | refine s_index1n tabOk rfl rfl rfl rfl (by omega) ?_ | refine s_indexn tabOk rfl rfl rfl rfl (by omega) ?_ | refine s_index1 tabOk rfl rfl rfl rfl (by omega) (by omega) ?_ | refine sh_load tabOk (by assumption) rfl rfl rfl rfl (by repeat (first | exact List.Mem.head _ | apply List.Mem.tail)) (by rfl) (by rfl) ?_ | refine sh_loadq tabOk (by assumption) rfl rfl rfl rfl (by repeat (first | exact List.Mem.head _ | apply List.Mem.tail)) (by rfl) ?_ | refine sh_loada tabOk (by assumption) rfl rfl rfl rfl (by repeat (first | exact List.Mem.head _ | apply List.Mem.tail)) (by rfl) ?_ | (refine sh_box (by assumption) rfl rfl rfl rfl rfl rfl ?_; intro _ _ _) | (refine sh_alloc tabOk (by assumption) rfl rfl rfl rfl rfl rfl ?_; intro _ _ _) | (refine sh_store tabOk (by assumption) rfl rfl rfl rfl rfl rfl (by repeat (first | exact Upd.here | apply Upd.there)) (by rfl) ?_; intro _ _) | (refine sh_lit tabOk (by assumption) rfl rfl rfl rfl rfl rfl rfl rfl rfl rfl rfl ?_; intro _ _ _) | refine sh_build tabOk rfl rfl rfl rfl rfl rfl ?_)
  refine retK_ret tabOk (congrArg Array.toList Tryd.results41) (by repeat (first | exact rv_nil | apply rv_tmp rfl rfl | apply rv_cellH (by assumption) rfl rfl rfl (by repeat (first | exact List.Mem.head _ | apply List.Mem.tail)) rfl)) ?_
  exact ⟨_, _, rfl, Hp.picks (by assumption) (by repeat (first | exact Picks.nil | (apply Picks.cons; (repeat (first | exact Pick.here | apply Pick.there)))))⟩
theorem hx_toSoil (hB : B ≤ W.heap.size) :
    ACalls Tryd.prog B 34 [soilV d] W (fun u W' => u = soilV d ∧ Hp B W W' []) := by
  have H0 : Hp B W W [] := Hp.new hB
  refine acalls_of Tryd.func34 rfl Tryd.ntmps34 (Nat.le_of_ble_eq_true rfl) ?_
  repeat' (first | refine s_pure tabOk rfl rfl rfl rfl ?_ | refine Stp.imp ?_ | refine aops_nil ?_ | refine aw_reg ?_ | refine aw_seq ?_ | refine s_pass rfl rfl rfl ?_ | refine s_len tabOk rfl rfl rfl rfl ?_ | refine aw_true rfl ?_ | refine aw_false rfl ?_ | refine blk_exit_other rfl ?_ | refine s_arith tabOk rfl rfl rfl rfl (by simp only [InR]; omega) ?_ | ((first | ((fail_if_success refine s_told rfl rfl ?_); refine s_part rfl rfl rfl ?_ ?_) | refine aw_if rfl ?_ ?_) <;> intro hc <;> (first | replace hc := DecT.imp hc | simp only [decs] at hc | skip)) | refine s_index1n tabOk rfl rfl rfl rfl (by omega) ?_ | refine s_indexn tabOk rfl rfl rfl rfl (by omega) ?_ | refine s_index1 tabOk rfl rfl rfl rfl (by omega) (by omega) ?_ | refine sh_load tabOk (by assumption) rfl rfl rfl rfl (by repeat (first | exact List.Mem.head _ | apply List.Mem.tail)) (by rfl) (by rfl) ?_ | refine sh_loadq tabOk (by assumption) rfl rfl rfl rfl (by repeat (first | exact List.Mem.head _ | apply List.Mem.tail)) (by rfl) ?_ | refine sh_loada tabOk (by assumption) rfl rfl rfl rfl (by repeat (first | exact List.Mem.head _ | apply List.Mem.tail)) (by rfl) ?_ | (refine sh_box (by assumption) rfl rfl rfl rfl rfl rfl ?_; intro _ _ _) | (refine sh_alloc tabOk (by assumption) rfl rfl rfl rfl rfl rfl ?_; intro _ _ _) | (refine sh_store tabOk (by assumption) rfl rfl rfl rfl rfl rfl (by repeat (first | exact Upd.here | apply Upd.there)) (by rfl) ?_; intro _ _) | (refine sh_lit tabOk (by assumption) rfl rfl rfl rfl rfl rfl rfl rfl rfl rfl rfl ?_; intro _ _ _) | refine sh_build tabOk rfl rfl rfl rfl rfl rfl ?_)
  refine retK_ret tabOk (congrArg Array.toList Tryd.results34) (by repeat (first | exact rv_nil | apply rv_tmp rfl rfl | apply rv_cellH (by assumption) rfl rfl rfl (by repeat (first | exact List.Mem.head _ | apply List.Mem.tail)) rfl)) ?_
  exact ⟨rfl, Hp.sub (by assumption) (by repeat (first | exact List.nil_sublist _ | refine List.Sublist.cons_cons _ ?_ | refine List.Sublist.cons _ ?_))⟩
theorem hx_toSection (hB : B ≤ W.heap.size) :
    ACalls Tryd.prog B 37 [sectV d] W (fun u W' => u = sectV d ∧ Hp B W W' []) := by
  have H0 : Hp B W W [] := Hp.new hB
  refine acalls_of Tryd.func37 rfl Tryd.ntmps37 (Nat.le_of_ble_eq_true rfl) ?_
  repeat' (first | refine s_pure tabOk rfl rfl rfl rfl ?_ | refine Stp.imp ?_ | refine aops_nil ?_ | refine aw_reg ?_ | refine aw_seq ?_ | refine s_pass rfl rfl rfl ?_ | refine s_len tabOk rfl rfl rfl rfl ?_ | refine aw_true rfl ?_ | refine aw_false rfl ?_ | refine blk_exit_other rfl ?_ | refine s_arith tabOk rfl rfl rfl rfl (by simp only [InR]; omega) ?_ | ((first | ((fail_if_success refine s_told rfl rfl ?_); refine s_part rfl rfl rfl ?_ ?_) | refine aw_if rfl ?_ ?_) <;> intro hc <;> (first | replace hc := DecT.imp hc | simp only [decs] at hc | skip)) | refine s_index1n tabOk rfl rfl rfl rfl (by omega) ?_ | refine s_indexn tabOk rfl rfl rfl rfl (by omega) ?_ | refine s_index1 tabOk rfl rfl rfl rfl (by omega) (by omega) ?_ | refine sh_load tabOk (by assumption) rfl rfl rfl rfl (by repeat (first | exact List.Mem.head _ | apply List.Mem.tail)) (by rfl) (by rfl) ?_ | refine sh_loadq tabOk (by assumption) rfl rfl rfl rfl (by repeat (first | exact List.Mem.head _ | apply List.Mem.tail)) (by rfl) ?_ | refine sh_loada tabOk (by assumption) rfl rfl rfl rfl (by repeat (first | exact List.Mem.head _ | apply List.Mem.tail)) (by rfl) ?_ | (refine sh_box (by assumption) rfl rfl rfl rfl rfl rfl ?_; intro _ _ _) | (refine sh_alloc tabOk (by assumption) rfl rfl rfl rfl rfl rfl ?_; intro _ _ _) | (refine sh_store tabOk (by assumption) rfl rfl rfl rfl rfl rfl (by repeat (first | exact Upd.here | apply Upd.there)) (by rfl) ?_; intro _ _) | (refine sh_lit tabOk (by assumption) rfl rfl rfl rfl rfl rfl rfl rfl rfl rfl rfl ?_; intro _ _ _) | refine sh_build tabOk rfl rfl rfl rfl rfl rfl ?_)
  refine retK_ret tabOk (congrArg Array.toList Tryd.results37) (by repeat (first | exact rv_nil | apply rv_tmp rfl rfl | apply rv_cellH (by assumption) rfl rfl rfl (by repeat (first | exact List.Mem.head _ | apply List.Mem.tail)) rfl)) ?_
  exact ⟨rfl, Hp.sub (by assumption) (by repeat (first | exact List.nil_sublist _ | refine List.Sublist.cons_cons _ ?_ | refine List.Sublist.cons _ ?_))⟩
end
end Go.Proofs.YthdnepjajhjmlaaDoor
