/- A record's bytes, the model's way. -/
import Derived.Test.YtkbcbbcacabelaaXSf
namespace Go.Proofs.Ytkbcbbcacabelaa
set_option linter.unusedSimpArgs false
set_option linter.unusedVariables false
open Go Cn Go.RowKit
section
variable {P : Program} {N B : Nat} {ops : Array Oper} {D : World → Prop} {S : World → World → Prop} {Q : Nat → Value → World → Prop} {E0 E : Env} {W : World} {T : Tab}
variable {i d : Nat} {op : Op} {ty : TypeId} {pos : String} {aft : Array Edge} {g : Option (Nat × Bool)}
/-- one turn, its needs at hand -/
def Step1 (P : Program) (N B : Nat) (ops : Array Oper) (D : World → Prop) (S : World → World → Prop) (Q : Nat → Value → World → Prop) (i : Nat) (o : Oper) (W : World) (E : Env) : Prop :=
  ∃ R : Value → World → Prop, (∀ a w, EnvR E N a → cw B w = W → B ≤ w.heap.size → SRun P B ops o a w R) ∧ ∀ v W', R v W' → D W' ∧ S W W' ∧ Q i v W'
theorem any_op (ho : getL ops.toList i = some ⟨some d, op, ty, pos, aft, g⟩) (hd : Nat.ble (d + 1) N = true) (js : List (Nat × Nat)) (hj : depsB ops i js = true)
    (h : ∀ W, D W → WithD Q W js E0 (Step1 P N B ops D S Q i ⟨some d, op, ty, pos, aft, g⟩ W)) : OpAny P N B ops D S Q E0 i :=
  ⟨_, d, getL_ok ho, rfl, hd, js, hj, h⟩
theorem t_yields {o : Oper} {R : Value → World → Prop} (hg : guardE ops o E = some true) (hy : Go.Proofs.Ytkbcbbcacabelaa.Cn.Yields P N B o E W R) (k : ∀ v W', R v W' → D W' ∧ S W W' ∧ Q i v W') : Step1 P N B ops D S Q i o W E := ⟨R, srun_yields hg hy, k⟩
theorem t_gives {o : Oper} {v : Value} {W' : World} (hg : guardE ops o E = some true) (hy : Gives P N B o E W v W') (h1 : D W') (h2 : S W W') (h3 : Q i v W') : Step1 P N B ops D S Q i o W E :=
  t_yields hg hy fun v1 W1 h => by obtain ⟨rfl, rfl⟩ := h; exact ⟨h1, h2, h3⟩
theorem t_call {o : Oper} {f : FuncId} {args : List Value} {R : Value → World → Prop} (hg : guardE ops o E = some true) (hv : evC' E o = some (f, args)) (hE : Ent P f) (hc : ACalls P B f args W R) (k : ∀ v W', R v W' → D W' ∧ S W W' ∧ Q i v W') : Step1 P N B ops D S Q i o W E := ⟨R, srun_call hg hv hE hc, k⟩
end
/-- every one of the operations -/
def AllOps (p : Nat → Prop) : Nat → Nat → Prop
  | _, 0 => True
  | i, k + 1 => p i ∧ AllOps p (i + 1) k
theorem allOps_spec {p : Nat → Prop} : ∀ {k i : Nat}, AllOps p i k → ∀ j, i ≤ j → j < i + k → p j
  | 0, i, _, j, h1, h2 => by omega
  | k + 1, i, h, j, h1, h2 => by
    by_cases e : j = i
    · subst e; exact h.1
    · exact allOps_spec h.2 j (by omega) (by omega)
/-! ### the bytes -/
def storeL (s : ByteArray) (st sp : Int) (xs : List Nat) : List (List Int) :=
  [[82, 73, 86, 49], [(s.size : Int)], bI s, leL st 4, leL sp 2, leL ((packTo xs xs.length).length : Int) 2, packTo xs xs.length]
def storeS (s : ByteArray) (st sp : Int) (xs : List Nat) : ByteArray :=
  strOfNums ((storeL s st sp xs).flatten ++ leL (chk 0 (strOfNums (storeL s st sp xs).flatten) (strOfNums (storeL s st sp xs).flatten).size) 2)
/-- what stays, and rows of more than four cells stay whole -/
def Keep4 (W W' : World) : Prop := Keeps W W' ∧ ∀ k, k < W.heap.size → W'.heap[k]? = W.heap[k]? ∨ ∃ (c : Array Value) (e : TypeId) (fz : Nat × Nat), W.heap[k]? = some (Obj.cells c e fz) ∧ c.size ≤ 4
theorem Keep4.of {W W' : World} (h : Below W.heap.size W W') : Keep4 W W' := ⟨Keeps.of h, fun k hk => .inl (h.block k hk)⟩
theorem Keep4.refl (W : World) : Keep4 W W := Keep4.of (Below.refl _ _)
theorem OwnV.keep4 {W W' : World} {base : Nat} {e : TypeId} {v : Value} {ys : List Value} (h : OwnV W base e v ys) (k : Keep4 W W') (hl : 4 < ys.length) : OwnV W' base e v ys := by
  obtain ⟨h1, h2⟩ := h
  refine ⟨h1, ?_⟩
  rcases h2 with ⟨rfl, h0⟩ | ⟨g, cap, cur, hv, hb, hg, hn, hm, hc, ht⟩
  · omega
  · refine .inr ⟨g, cap, cur, hv, hb, ?_, hn, hm, hc, ht⟩
    rcases k.2 g (Array.getElem?_eq_some_iff.1 hg).1 with h | ⟨c, e', fz, h, hs⟩
    · rw [h]; exact hg
    · rw [hg] at h
      cases h
      omega
/-- a slice of bytes that can be read -/
def Sby (W : World) (v : Value) (xs : List Int) : Prop := ∃ a c, v = .slice a xs.length c ∧ SlV W 1 v xs.length (u8s xs)
theorem Sby.keeps {W W' : World} {v : Value} {xs : List Int} (h : Sby W v xs) (k : Keeps W W') : Sby W' v xs := by
  obtain ⟨a, c, h1, h2⟩ := h
  exact ⟨a, c, h1, k.sl h2⟩
def partsOf (vs : List Value) : List (Option Addr × Nat × Nat) := vs.map fun v => match v with
  | .slice a n c => (a, n, c)
  | _ => (none, 0, 0)
/-- what each operation of the seven parts leaves -/
def QS (base b : Nat) (v3 : Value) (s : ByteArray) (st sp : Int) (xs : List Nat) : Nat → Value → World → Prop
  | 0, v, W => Rowm W base 5 v (u8s [82, 73, 86, 49])
  | 1, v, W => Rowm W base 5 v (u8s [82, 73, 86, 49])
  | 2, v, _ => v = .pointer (some ⟨b, 0, none⟩)
  | 3, v, _ => v = .string s
  | 4, v, _ => v = .int .i64 s.size
  | 5, v, _ => v = .int .u8 s.size
  | 6, v, W => Sby W v [(s.size : Int)]
  | 7, v, _ => v = .pointer (some ⟨b, 0, none⟩)
  | 8, v, _ => v = .string s
  | 9, v, W => Sby W v (bI s)
  | 10, v, _ => v = .pointer (some ⟨b, 1, none⟩)
  | 11, v, _ => v = .int .i64 st
  | 12, v, W => Sby W v (leL st 4)
  | 13, v, _ => v = .pointer (some ⟨b, 2, none⟩)
  | 14, v, _ => v = .int .i64 sp
  | 15, v, W => Sby W v (leL sp 2)
  | 16, v, _ => v = v3
  | 17, v, _ => v = .int .i64 (packTo xs xs.length).length
  | 18, v, W => Sby W v (leL (packTo xs xs.length).length 2)
  | 19, v, _ => v = v3
  | 20, v, W => ∃ b7 ps, v = .slice (some ⟨b7, 0, none⟩) 7 7 ∧ RdV W b7 0 (ps.map slV) ∧ Parts W ps (storeL s st sp xs)
  | 21, v, W => OwnV W base 5 v (u8s (storeL s st sp xs).flatten)
  | 22, v, W => OwnV W base 5 v (u8s (storeL s st sp xs).flatten)
  | _, _, _ => True
theorem Parts.keeps {W W' : World} {ps : List (Option Addr × Nat × Nat)} {yss : List (List Int)} (h : Parts W ps yss) (k : Keeps W W') : Parts W' ps yss :=
  ⟨h.1, fun i hi => ⟨(h.2 i hi).1, k.sl (h.2 i hi).2⟩⟩
theorem storeL_len (s : ByteArray) (st sp : Int) (xs : List Nat) : (storeL s st sp xs).flatten.length = 13 + s.size + (packTo xs xs.length).length := by
  simp only [storeL, List.flatten_cons, List.flatten_nil, List.length_append, List.length_cons, List.length_nil, bI_len, leL_len]
  omega
theorem QS.stay {base b : Nat} {v3 : Value} {s : ByteArray} {st sp : Int} {xs : List Nat} (i : Nat) (v : Value) (W W' : World) (k : Keep4 W W') (h : QS base b v3 s st sp xs i v W) : QS base b v3 s st sp xs i v W' := by
  have hl : 4 < (u8s (storeL s st sp xs).flatten).length := by rw [List.length_map, storeL_len]; omega
  match i, h with
  | 0, h => exact Rowm.keeps h k.1
  | 1, h => exact Rowm.keeps h k.1
  | 2, h => exact h
  | 3, h => exact h
  | 4, h => exact h
  | 5, h => exact h
  | 6, h => exact Sby.keeps h k.1
  | 7, h => exact h
  | 8, h => exact h
  | 9, h => exact Sby.keeps h k.1
  | 10, h => exact h
  | 11, h => exact h
  | 12, h => exact Sby.keeps h k.1
  | 13, h => exact h
  | 14, h => exact h
  | 15, h => exact Sby.keeps h k.1
  | 16, h => exact h
  | 17, h => exact h
  | 18, h => exact Sby.keeps h k.1
  | 19, h => exact h
  | 20, h =>
    obtain ⟨b7, ps, h1, h2, h3⟩ := h
    exact ⟨b7, ps, h1, k.1.rd h2, h3.keeps k.1⟩
  | 21, h => exact OwnV.keep4 h k hl
  | 22, h => exact OwnV.keep4 h k hl
  | n + 23, _ => trivial
theorem Rowm.sby {W : World} {base : Nat} {e : TypeId} {v : Value} {xs : List Int} (h : Rowm W base e v (u8s xs)) : Sby W v xs := by
  have h1 := h.sl
  obtain ⟨b, c, fz, rfl, -⟩ := h
  rw [List.length_map] at h1 ⊢
  exact ⟨_, _, rfl, h1⟩
theorem Hp.ownB {B : Nat} {A W : World} {l : List Res} {v : Value} {n : Nat} {xs : List Int} (H : Hp B A W l) (hm : Res.row 5 1 v n (u8s xs) ∈ l) : OwnV W A.heap.size 5 v (u8s xs) := by
  have hn : (u8s xs).length = n := by have := H.row_len hm; omega
  subst hn
  exact ownsRow_base (H.ok _ hm).1 fun b hb => (H.own _ hm b hb).1
theorem OwnV.sby {W : World} {base : Nat} {e : TypeId} {v : Value} {xs : List Int} (h : OwnV W base e v (u8s xs)) : Sby W v xs := by
  obtain ⟨a, c, rfl⟩ := h.form
  have h1 : SlV W 1 (.slice a (u8s xs).length c) (u8s xs).length (u8s xs) := SlV.of_row ⟨ownsRow_base h fun _ _ => Nat.zero_le _, by simp [u8s, Value.oneCell'], by
    intro v hv
    simp only [u8s, List.mem_map] at hv
    obtain ⟨x, -, rfl⟩ := hv
    rfl⟩
  rw [List.length_map] at h1 ⊢
  exact ⟨_, _, rfl, h1⟩
section
variable {B : Nat} {A W W' : World} {L : List Res}
set_option maxHeartbeats 4000000 in
theorem c_impl_storeRecord {v : Value} {s : ByteArray} {st sp : Int} {xs : List Nat} (hv : RecA W v s st sp xs) (hs : s.size ≤ 255) (hl : xs.length ≤ 128) (hbd : Bd xs) (hst : 0 ≤ st ∧ st ≤ 4294967295) (hsp : 0 ≤ sp ∧ sp ≤ 65535) (hB : B ≤ W.heap.size) :
    ACalls Try.prog B 60 [v] W (fun r W' => r = .string (storeS s st sp xs) ∧ Below W.heap.size W W') := by
  obtain ⟨a, c, rfl, hx⟩ := hv
  have H0 : Hp B W W [] := Hp.new hB
  have hpl := packTo_len xs xs.length
  refine acalls_of Try.func60 rfl Try.ntmps60 (Nat.le_of_ble_eq_true rfl) ?_
  repeat' (first | refine s_pure tabOk rfl rfl rfl rfl ?_ | refine Stp.imp ?_ | refine aops_nil ?_ | refine aw_reg ?_ | refine aw_seq ?_ | refine s_pass rfl rfl rfl ?_ | refine s_len tabOk rfl rfl rfl rfl ?_ | refine aw_true rfl ?_ | refine aw_false rfl ?_ | refine blk_exit_other rfl ?_ | refine s_arith tabOk rfl rfl rfl rfl (by simp only [InR]; omega) ?_ | ((first | ((fail_if_success refine s_told rfl rfl ?_); refine s_part rfl rfl rfl ?_ ?_) | refine aw_if rfl ?_ ?_) <;> intro hc <;> (first | replace hc := DecT.imp hc | simp only [decs] at hc | skip)) | refine s_index1n tabOk rfl rfl rfl rfl (by omega) ?_ | refine s_indexn tabOk rfl rfl rfl rfl (by omega) ?_ | refine s_index1 tabOk rfl rfl rfl rfl (by omega) (by omega) ?_ | refine sh_load tabOk (by assumption) rfl rfl rfl rfl (by repeat (first | exact List.Mem.head _ | apply List.Mem.tail)) (by rfl) (by rfl) ?_ | refine sh_loada tabOk (by assumption) rfl rfl rfl rfl (by repeat (first | exact List.Mem.head _ | apply List.Mem.tail)) (by rfl) ?_ | (refine sh_box (by assumption) rfl rfl rfl rfl rfl rfl ?_; intro _ _ _) | (refine sh_alloc tabOk (by assumption) rfl rfl rfl rfl rfl rfl ?_; intro _ _ _) | (refine sh_store tabOk (by assumption) rfl rfl rfl rfl rfl rfl (by repeat (first | exact Upd.here | apply Upd.there)) (by rfl) ?_; intro _ _) | (refine sh_lit tabOk (by assumption) rfl rfl rfl rfl rfl rfl rfl rfl rfl rfl rfl ?_; intro _ _ _) | refine sh_build tabOk rfl rfl rfl rfl rfl rfl ?_)
  rename_i b W1 H1
  refine s_call rfl rfl rfl rfl ent48 (c_impl_pack (Hp.slFA H1 hx) (by omega) hbd H1.size) ?_
  rintro v3 W2 ⟨h3, g2⟩
  have H2 := Hp.grow (by assumption) g2
  obtain ⟨va, vc, rfl⟩ := h3.form
  repeat' (first | refine s_pure tabOk rfl rfl rfl rfl ?_ | refine Stp.imp ?_ | refine aops_nil ?_ | refine aw_reg ?_ | refine aw_seq ?_ | refine s_pass rfl rfl rfl ?_ | refine s_len tabOk rfl rfl rfl rfl ?_ | refine aw_true rfl ?_ | refine aw_false rfl ?_ | refine blk_exit_other rfl ?_ | refine s_arith tabOk rfl rfl rfl rfl (by simp only [InR]; omega) ?_ | ((first | ((fail_if_success refine s_told rfl rfl ?_); refine s_part rfl rfl rfl ?_ ?_) | refine aw_if rfl ?_ ?_) <;> intro hc <;> (first | replace hc := DecT.imp hc | simp only [decs] at hc | skip)) | refine s_index1n tabOk rfl rfl rfl rfl (by omega) ?_ | refine s_indexn tabOk rfl rfl rfl rfl (by omega) ?_ | refine s_index1 tabOk rfl rfl rfl rfl (by omega) (by omega) ?_ | refine sh_load tabOk (by assumption) rfl rfl rfl rfl (by repeat (first | exact List.Mem.head _ | apply List.Mem.tail)) (by rfl) (by rfl) ?_ | refine sh_loada tabOk (by assumption) rfl rfl rfl rfl (by repeat (first | exact List.Mem.head _ | apply List.Mem.tail)) (by rfl) ?_ | (refine sh_box (by assumption) rfl rfl rfl rfl rfl rfl ?_; intro _ _ _) | (refine sh_alloc tabOk (by assumption) rfl rfl rfl rfl rfl rfl ?_; intro _ _ _) | (refine sh_store tabOk (by assumption) rfl rfl rfl rfl rfl rfl (by repeat (first | exact Upd.here | apply Upd.there)) (by rfl) ?_; intro _ _) | (refine sh_lit tabOk (by assumption) rfl rfl rfl rfl rfl rfl rfl rfl rfl rfl rfl ?_; intro _ _ _) | refine sh_build tabOk rfl rfl rfl rfl rfl rfl ?_)
  have hblk := H2.blk (b := b) (by repeat (first | exact List.Mem.head _ | apply List.Mem.tail))
  have hB2 := H2.size
  have hL := storeL_len s st sp xs
  refine aw_any followsMixed (fun W' => Below W2.heap.size W2 W') Keep4 (QS W2.heap.size b (.slice va (u8s (packTo xs xs.length)).length vc) s st sp xs) [(1, .pointer (some ⟨b, 0, none⟩)), (2, .string ⟨#[]⟩), (3, .slice va (u8s (packTo xs xs.length)).length vc)] (by exact (by repeat (first | exact less_nil | refine less_cons rfl ?_))) (by kernel_rfl) (Below.refl _ _) QS.stay ?_ ?_
  · intro i hi
    refine allOps_spec (i := 0) (k := 23) ?_ i (Nat.zero_le _) hi
    have ok : ∀ {W3 : World}, Below W2.heap.size W2 W3 → (Res.blk b [.string s, .int .i64 st, .int .i64 sp, .slice a xs.length c] 37).ok W3 := fun hD => (Hp.grow H2 hD).ok _ (by repeat (first | exact List.Mem.head _ | apply List.Mem.tail))
    have al : ∀ {W3 : World} (o : Obj), Below W2.heap.size W2 W3 → Below W2.heap.size W2 (W3.alloc o) := fun o hD => hD.alloc hD.size o
    have ka : ∀ {W3 : World} (o : Obj), Keep4 W3 (W3.alloc o) := fun o => Keep4.of ((Below.refl _ _).alloc (Nat.le_refl _) o)
    have big : ∀ {W3 : World}, Below W2.heap.size W2 W3 → B ≤ W3.heap.size := fun hD => Nat.le_trans hB2 hD.size
    have ub : ∀ (xs : List Int), ∀ v ∈ u8s xs, v.oneCell' = true ∧ cl v = v := by
      intro xs v hv
      simp only [u8s, List.mem_map] at hv
      obtain ⟨x, -, rfl⟩ := hv
      exact ⟨rfl, rfl⟩
    refine ⟨?_, ?_, ?_, ?_, ?_, ?_, ?_, ?_, ?_, ?_, ?_, ?_, ?_, ?_, ?_, ?_, ?_, ?_, ?_, ?_, ?_, ?_, ?_, trivial⟩
    · exact any_op rfl rfl [] rfl fun W3 hD => t_gives rfl (gives_buildSlice tabOk rfl rfl (by simp [Value.cells]) (by decide) (by decide) (by decide)) (al _ hD) (ka _) (rowm_new (vs := u8s [82, 73, 86, 49]) hD.size (ub _))
    · refine any_op rfl rfl [(0, 8)] rfl fun W3 hD v hv => ?_
      have hv0 : Rowm W3 W2.heap.size 5 v (u8s [82, 73, 86, 49]) := hv
      obtain ⟨g, cs, fz, rfl, -⟩ := hv
      exact t_yields rfl (yields_markBytes tabOk rfl hv0 hD.size) fun v' W' ⟨e, h1, h2, h3, h4⟩ => ⟨hD.trans h3, ⟨h2, fun k _ => (h4 k).imp id fun ⟨c, e, fz, h, h'⟩ => ⟨c, e, fz, h, by rw [h']; decide⟩⟩, by rw [e]; exact h1⟩
    · exact any_op rfl rfl [] rfl fun W3 hD => t_gives rfl (gives_evP tabOk rfl) hD (Keep4.refl _) rfl
    · refine any_op rfl rfl [(2, 10)] rfl fun W3 hD v hv => ?_
      obtain rfl : v = _ := hv
      exact t_gives rfl (gh_load tabOk rfl (ok hD) rfl rfl) hD (Keep4.refl _) rfl
    · refine any_op rfl rfl [(3, 11)] rfl fun W3 hD v hv => ?_
      obtain rfl : v = _ := hv
      exact t_gives rfl (gives_evL tabOk rfl) hD (Keep4.refl _) rfl
    · refine any_op rfl rfl [(4, 12)] rfl fun W3 hD v hv => ?_
      obtain rfl : v = _ := hv
      refine t_gives rfl (gives_evA tabOk rfl) hD (Keep4.refl _) ?_
      show Value.int .u8 _ = .int .u8 _
      rw [wrap_u8]; congr 1; omega
    · refine any_op rfl rfl [(5, 13)] rfl fun W3 hD v hv => ?_
      obtain rfl : v = _ := hv
      exact t_gives rfl (gives_buildSlice tabOk rfl rfl (by simp [Value.cells]) (by decide) (by decide) (by simp)) (al _ hD) (ka _) (Rowm.sby (base := W2.heap.size) (e := 5) (rowm_new (vs := u8s [(s.size : Int)]) hD.size (ub _)))
    · exact any_op rfl rfl [] rfl fun W3 hD => t_gives rfl (gives_evP tabOk rfl) hD (Keep4.refl _) rfl
    · refine any_op rfl rfl [(7, 15)] rfl fun W3 hD v hv => ?_
      obtain rfl : v = _ := hv
      exact t_gives rfl (gh_load tabOk rfl (ok hD) rfl rfl) hD (Keep4.refl _) rfl
    · refine any_op rfl rfl [(8, 16)] rfl fun W3 hD v hv => ?_
      obtain rfl : v = _ := hv
      exact t_yields rfl (yields_strBytes tabOk rfl) fun v' W' ⟨a, c, e, h1, h2⟩ => ⟨hD.trans (h2.mono hD.size), Keep4.of h2, ⟨a, c, e, h1⟩⟩
    · exact any_op rfl rfl [] rfl fun W3 hD => t_gives rfl (gives_evP tabOk rfl) hD (Keep4.refl _) rfl
    · refine any_op rfl rfl [(10, 18)] rfl fun W3 hD v hv => ?_
      obtain rfl : v = _ := hv
      exact t_gives rfl (gh_load tabOk rfl (ok hD) rfl rfl) hD (Keep4.refl _) rfl
    · refine any_op rfl rfl [(11, 19)] rfl fun W3 hD v hv => ?_
      obtain rfl : v = _ := hv
      exact t_call rfl rfl ent88 (c_impl_little (k := 4) hst.1 (by omega) (by decide) (big hD)) fun v' W' ⟨h1, h2⟩ => ⟨hD.trans (h2.mono hD.size), Keep4.of h2, h1.sby⟩
    · exact any_op rfl rfl [] rfl fun W3 hD => t_gives rfl (gives_evP tabOk rfl) hD (Keep4.refl _) rfl
    · refine any_op rfl rfl [(13, 21)] rfl fun W3 hD v hv => ?_
      obtain rfl : v = _ := hv
      exact t_gives rfl (gh_load tabOk rfl (ok hD) rfl rfl) hD (Keep4.refl _) rfl
    · refine any_op rfl rfl [(14, 22)] rfl fun W3 hD v hv => ?_
      obtain rfl : v = _ := hv
      exact t_call rfl rfl ent88 (c_impl_little (k := 2) hsp.1 (by omega) (by decide) (big hD)) fun v' W' ⟨h1, h2⟩ => ⟨hD.trans (h2.mono hD.size), Keep4.of h2, h1.sby⟩
    · exact any_op rfl rfl [] rfl fun W3 hD => t_gives rfl (gives_evP tabOk rfl) hD (Keep4.refl _) rfl
    · refine any_op rfl rfl [(16, 24)] rfl fun W3 hD v hv => ?_
      obtain rfl : v = _ := hv
      refine t_gives rfl (gives_evL tabOk rfl) hD (Keep4.refl _) ?_
      show Value.int .i64 _ = .int .i64 _
      rw [List.length_map]
    · refine any_op rfl rfl [(17, 25)] rfl fun W3 hD v hv => ?_
      obtain rfl : v = _ := hv
      exact t_call rfl rfl ent88 (c_impl_little (k := 2) (by omega) (by omega) (by decide) (big hD)) fun v' W' ⟨h1, h2⟩ => ⟨hD.trans (h2.mono hD.size), Keep4.of h2, h1.sby⟩
    · exact any_op rfl rfl [] rfl fun W3 hD => t_gives rfl (gives_evP tabOk rfl) hD (Keep4.refl _) rfl
    · refine any_op rfl rfl [(1, 9), (6, 14), (9, 17), (12, 20), (15, 23), (18, 26), (19, 27)] rfl fun W3 hD v1 q1 v2 q2 v3 q3 v4 q4 v5 q5 v6 q6 v7 q7 => ?_
      have q1 : Sby W3 v1 [82, 73, 86, 49] := Rowm.sby (show Rowm _ _ _ _ _ from q1)
      obtain rfl : v7 = _ := q7
      have q7 := Sby.keeps (OwnV.sby h3) (Keeps.of hD)
      obtain ⟨a1, c1, rfl, p1⟩ := q1
      obtain ⟨a2, c2, rfl, p2⟩ := (show Sby _ _ _ from q2)
      obtain ⟨a3, c3, rfl, p3⟩ := (show Sby _ _ _ from q3)
      obtain ⟨a4, c4, rfl, p4⟩ := (show Sby _ _ _ from q4)
      obtain ⟨a5, c5, rfl, p5⟩ := (show Sby _ _ _ from q5)
      obtain ⟨a6, c6, rfl, p6⟩ := (show Sby _ _ _ from q6)
      obtain ⟨a7, c7, e7, p7⟩ := q7
      rw [e7] at p7 ⊢
      refine t_gives rfl (gives_buildSlice tabOk rfl rfl (by simp [Value.cells]) (by decide) (by decide) (by simp)) (al _ hD) (ka _) ?_
      refine ⟨W3.heap.size, [(a1, 4, c1), (a2, 1, c2), (a3, (bI s).length, c3), (a4, (leL st 4).length, c4), (a5, (leL sp 2).length, c5), (a6, (leL ((packTo xs xs.length).length : Int) 2).length, c6), (a7, (packTo xs xs.length).length, c7)], rfl, ?_, ?_⟩
      · obtain ⟨b8, c8, fz8, e8, -, -, -, h8⟩ := rowm_new (base := 0) (e := 53) (vs := ([(a1, 4, c1), (a2, 1, c2), (a3, (bI s).length, c3), (a4, (leL st 4).length, c4), (a5, (leL sp 2).length, c5), (a6, (leL ((packTo xs xs.length).length : Int) 2).length, c6), (a7, (packTo xs xs.length).length, c7)] : List Sv).map slV) (W := W3) (Nat.zero_le _) (by simp [slV, Value.oneCell', cl])
        cases e8
        exact h8
      · have kk := (ka (W3 := W3) (.cells (cellsAll [.slice a1 4 c1, .slice a2 1 c2, .slice a3 (bI s).length c3, .slice a4 (leL st 4).length c4, .slice a5 (leL sp 2).length c5, .slice a6 (leL ((packTo xs xs.length).length : Int) 2).length c6, .slice a7 (packTo xs xs.length).length c7]) 53)).1
        refine ⟨rfl, fun i hi => ?_⟩
        match i, hi with
        | 0, _ => exact ⟨rfl, kk.sl p1⟩
        | 1, _ => exact ⟨rfl, kk.sl p2⟩
        | 2, _ => exact ⟨rfl, kk.sl p3⟩
        | 3, _ => exact ⟨rfl, kk.sl p4⟩
        | 4, _ => exact ⟨rfl, kk.sl p5⟩
        | 5, _ => exact ⟨rfl, kk.sl p6⟩
        | 6, _ => exact ⟨rfl, kk.sl p7⟩
        | n + 7, hi => exact absurd hi (by simp [storeL])
    · refine any_op rfl rfl [(20, 28)] rfl fun W3 hD v hv => ?_
      obtain ⟨b7, ps, rfl, r7, p7⟩ := hv
      refine t_call rfl rfl ent87 (c_ConcatB (yss := storeL s st sp xs) (big hD) r7 p7 (by omega) (by omega) (by simp [storeL])) fun v' W' ⟨a, c, e, g⟩ => ⟨hD.trans (g.below.mono hD.size), Keep4.of g.below, ?_⟩
      subst e
      have h1 := ownsRow_base (g.ok _ (List.mem_cons_self ..)).1 fun b hb => (g.own _ (List.mem_cons_self ..) b hb).1
      show OwnV _ _ _ _ _
      unfold OwnV
      rw [List.length_map]
      exact ownsRow_base h1 fun b hb => Nat.le_trans hD.size (g.own _ (List.mem_cons_self ..) b hb).1
    · refine any_op rfl rfl [(21, 29)] rfl fun W3 hD v hv => ?_
      exact t_gives rfl (gives_evP tabOk rfl) hD (Keep4.refl _) hv
  · intro E W3 hD hE hQ
    obtain ⟨v4, e4, q4⟩ := hQ 22 _ 4 rfl rfl
    have q4 : OwnV W3 W2.heap.size 5 v4 (u8s (storeL s st sp xs).flatten) := q4
    have H3 := Hp.grow H2 hD
    have H4 : Hp B W W3 (.row 5 1 v4 (u8s (storeL s st sp xs).flatten).length (u8s (storeL s st sp xs).flatten) :: [.blk b [.string s, .int .i64 st, .int .i64 sp, .slice a xs.length c] 37]) := H2.add hD ⟨ownsRow_base q4 fun _ _ => Nat.zero_le _, by simp [u8s, Value.oneCell'], by
      intro v hv
      simp only [u8s, List.mem_map] at hv
      obtain ⟨x, -, rfl⟩ := hv
      rfl⟩ fun k hk => by
        have h5 := q4.lt k hk
        exact h5
    obtain ⟨a4, c4, rfl⟩ := q4.form
    refine thn_normal (AW.less (E' := [(4, .slice a4 (u8s (storeL s st sp xs).flatten).length c4), (2, .string ⟨#[]⟩)]) (fun t u ht => ?_) ?_)
    · by_cases h4 : 4 = t
      · subst h4
        rw [get_same] at ht
        rw [e4]; exact ht
      · rw [get_other h4] at ht
        exact hE t u (by
          by_cases h2 : 2 = t
          · subst h2; exact ht
          · rw [get_other h2] at ht; cases ht)
    · clear H0 H1 H2 H3 hQ hE
      repeat' (first | refine s_pure tabOk rfl rfl rfl rfl ?_ | refine Stp.imp ?_ | refine aops_nil ?_ | refine aw_reg ?_ | refine aw_seq ?_ | refine s_pass rfl rfl rfl ?_ | refine s_len tabOk rfl rfl rfl rfl ?_ | refine aw_true rfl ?_ | refine aw_false rfl ?_ | refine blk_exit_other rfl ?_ | refine s_arith tabOk rfl rfl rfl rfl (by simp only [InR]; omega) ?_ | ((first | ((fail_if_success refine s_told rfl rfl ?_); refine s_part rfl rfl rfl ?_ ?_) | refine aw_if rfl ?_ ?_) <;> intro hc <;> (first | replace hc := DecT.imp hc | simp only [decs] at hc | skip)) | refine s_index1n tabOk rfl rfl rfl rfl (by omega) ?_ | refine s_indexn tabOk rfl rfl rfl rfl (by omega) ?_ | refine s_index1 tabOk rfl rfl rfl rfl (by omega) (by omega) ?_ | refine sh_load tabOk (by assumption) rfl rfl rfl rfl (by repeat (first | exact List.Mem.head _ | apply List.Mem.tail)) (by rfl) (by rfl) ?_ | refine sh_loada tabOk (by assumption) rfl rfl rfl rfl (by repeat (first | exact List.Mem.head _ | apply List.Mem.tail)) (by rfl) ?_ | (refine sh_box (by assumption) rfl rfl rfl rfl rfl rfl ?_; intro _ _ _) | (refine sh_alloc tabOk (by assumption) rfl rfl rfl rfl rfl rfl ?_; intro _ _ _) | (refine sh_store tabOk (by assumption) rfl rfl rfl rfl rfl rfl (by repeat (first | exact Upd.here | apply Upd.there)) (by rfl) ?_; intro _ _) | (refine sh_lit tabOk (by assumption) rfl rfl rfl rfl rfl rfl rfl rfl rfl rfl rfl ?_; intro _ _ _) | refine sh_build tabOk rfl rfl rfl rfl rfl rfl ?_)
      refine s_bytesString tabOk rfl rfl rfl rfl q4 ?_
      repeat' (first | refine s_pure tabOk rfl rfl rfl rfl ?_ | refine Stp.imp ?_ | refine aops_nil ?_ | refine aw_reg ?_ | refine aw_seq ?_ | refine s_pass rfl rfl rfl ?_ | refine s_len tabOk rfl rfl rfl rfl ?_ | refine aw_true rfl ?_ | refine aw_false rfl ?_ | refine blk_exit_other rfl ?_ | refine s_arith tabOk rfl rfl rfl rfl (by simp only [InR]; omega) ?_ | ((first | ((fail_if_success refine s_told rfl rfl ?_); refine s_part rfl rfl rfl ?_ ?_) | refine aw_if rfl ?_ ?_) <;> intro hc <;> (first | replace hc := DecT.imp hc | simp only [decs] at hc | skip)) | refine s_index1n tabOk rfl rfl rfl rfl (by omega) ?_ | refine s_indexn tabOk rfl rfl rfl rfl (by omega) ?_ | refine s_index1 tabOk rfl rfl rfl rfl (by omega) (by omega) ?_ | refine sh_load tabOk (by assumption) rfl rfl rfl rfl (by repeat (first | exact List.Mem.head _ | apply List.Mem.tail)) (by rfl) (by rfl) ?_ | refine sh_loada tabOk (by assumption) rfl rfl rfl rfl (by repeat (first | exact List.Mem.head _ | apply List.Mem.tail)) (by rfl) ?_ | (refine sh_box (by assumption) rfl rfl rfl rfl rfl rfl ?_; intro _ _ _) | (refine sh_alloc tabOk (by assumption) rfl rfl rfl rfl rfl rfl ?_; intro _ _ _) | (refine sh_store tabOk (by assumption) rfl rfl rfl rfl rfl rfl (by repeat (first | exact Upd.here | apply Upd.there)) (by rfl) ?_; intro _ _) | (refine sh_lit tabOk (by assumption) rfl rfl rfl rfl rfl rfl rfl rfl rfl rfl rfl ?_; intro _ _ _) | refine sh_build tabOk rfl rfl rfl rfl rfl rfl ?_)
      refine s_call rfl rfl rfl rfl ent89 (c_impl_check (by decide) (by rw [strOfNums_size]; omega)) ?_
      rintro _ _ ⟨rfl, rfl⟩
      have hc := chk_range (n := 0) (s := strOfNums (storeL s st sp xs).flatten) (by decide) (strOfNums (storeL s st sp xs).flatten).size
      repeat' (first | refine s_pure tabOk rfl rfl rfl rfl ?_ | refine Stp.imp ?_ | refine aops_nil ?_ | refine aw_reg ?_ | refine aw_seq ?_ | refine s_pass rfl rfl rfl ?_ | refine s_len tabOk rfl rfl rfl rfl ?_ | refine aw_true rfl ?_ | refine aw_false rfl ?_ | refine blk_exit_other rfl ?_ | refine s_arith tabOk rfl rfl rfl rfl (by simp only [InR]; omega) ?_ | ((first | ((fail_if_success refine s_told rfl rfl ?_); refine s_part rfl rfl rfl ?_ ?_) | refine aw_if rfl ?_ ?_) <;> intro hc <;> (first | replace hc := DecT.imp hc | simp only [decs] at hc | skip)) | refine s_index1n tabOk rfl rfl rfl rfl (by omega) ?_ | refine s_indexn tabOk rfl rfl rfl rfl (by omega) ?_ | refine s_index1 tabOk rfl rfl rfl rfl (by omega) (by omega) ?_ | refine sh_load tabOk (by assumption) rfl rfl rfl rfl (by repeat (first | exact List.Mem.head _ | apply List.Mem.tail)) (by rfl) (by rfl) ?_ | refine sh_loada tabOk (by assumption) rfl rfl rfl rfl (by repeat (first | exact List.Mem.head _ | apply List.Mem.tail)) (by rfl) ?_ | (refine sh_box (by assumption) rfl rfl rfl rfl rfl rfl ?_; intro _ _ _) | (refine sh_alloc tabOk (by assumption) rfl rfl rfl rfl rfl rfl ?_; intro _ _ _) | (refine sh_store tabOk (by assumption) rfl rfl rfl rfl rfl rfl (by repeat (first | exact Upd.here | apply Upd.there)) (by rfl) ?_; intro _ _) | (refine sh_lit tabOk (by assumption) rfl rfl rfl rfl rfl rfl rfl rfl rfl rfl rfl ?_; intro _ _ _) | refine sh_build tabOk rfl rfl rfl rfl rfl rfl ?_)
      refine s_call rfl rfl rfl rfl ent88 (c_impl_little (k := 2) hc.1 (by omega) (by decide) (Hp.size (by assumption))) ?_
      rintro v5 W5 ⟨h5, g5⟩
      have H5 := Hp.grow H4 g5
      obtain ⟨a5, c5, rfl, p5⟩ := OwnV.sby h5
      refine sh_append tabOk H5 rfl rfl rfl rfl rfl rfl rfl rfl rfl (fun _ _ => (by repeat (first | exact Upd.here | apply Upd.there))) p5 (by rw [List.length_map, leL_len]; omega) ?_
      intro a7 c7 W7 H7
      have h7 : (u8s (storeL s st sp xs).flatten).length + (leL (chk 0 (strOfNums (storeL s st sp xs).flatten) (strOfNums (storeL s st sp xs).flatten).size) 2).length = ((storeL s st sp xs).flatten ++ leL (chk 0 (strOfNums (storeL s st sp xs).flatten) (strOfNums (storeL s st sp xs).flatten).size) 2).length := by
        rw [List.length_append, List.length_map]
      rw [h7, ← List.map_append] at H7
      rw [h7]
      have q7 := Hp.ownB H7 (List.mem_cons_self ..)
      refine s_bytesString tabOk rfl rfl rfl rfl q7 ?_
      repeat' (first | refine s_pure tabOk rfl rfl rfl rfl ?_ | refine Stp.imp ?_ | refine aops_nil ?_ | refine aw_reg ?_ | refine aw_seq ?_ | refine s_pass rfl rfl rfl ?_ | refine s_len tabOk rfl rfl rfl rfl ?_ | refine aw_true rfl ?_ | refine aw_false rfl ?_ | refine blk_exit_other rfl ?_ | refine s_arith tabOk rfl rfl rfl rfl (by simp only [InR]; omega) ?_ | ((first | ((fail_if_success refine s_told rfl rfl ?_); refine s_part rfl rfl rfl ?_ ?_) | refine aw_if rfl ?_ ?_) <;> intro hc <;> (first | replace hc := DecT.imp hc | simp only [decs] at hc | skip)) | refine s_index1n tabOk rfl rfl rfl rfl (by omega) ?_ | refine s_indexn tabOk rfl rfl rfl rfl (by omega) ?_ | refine s_index1 tabOk rfl rfl rfl rfl (by omega) (by omega) ?_ | refine sh_load tabOk (by assumption) rfl rfl rfl rfl (by repeat (first | exact List.Mem.head _ | apply List.Mem.tail)) (by rfl) (by rfl) ?_ | refine sh_loada tabOk (by assumption) rfl rfl rfl rfl (by repeat (first | exact List.Mem.head _ | apply List.Mem.tail)) (by rfl) ?_ | (refine sh_box (by assumption) rfl rfl rfl rfl rfl rfl ?_; intro _ _ _) | (refine sh_alloc tabOk (by assumption) rfl rfl rfl rfl rfl rfl ?_; intro _ _ _) | (refine sh_store tabOk (by assumption) rfl rfl rfl rfl rfl rfl (by repeat (first | exact Upd.here | apply Upd.there)) (by rfl) ?_; intro _ _) | (refine sh_lit tabOk (by assumption) rfl rfl rfl rfl rfl rfl rfl rfl rfl rfl rfl ?_; intro _ _ _) | refine sh_build tabOk rfl rfl rfl rfl rfl rfl ?_)
      refine retK_ret tabOk (congrArg Array.toList Try.results60) (by repeat (first | exact rv_nil | apply rv_tmp rfl rfl | apply rv_cellH (by assumption) rfl rfl rfl (by repeat (first | exact List.Mem.head _ | apply List.Mem.tail)) rfl)) ?_
      exact ⟨rfl, H7.below⟩
end
end Go.Proofs.Ytkbcbbcacabelaa
namespace Go.Proofs.Ytkbcbbcacabelaa
set_option linter.unusedSimpArgs false
set_option linter.unusedVariables false
open Go Cn Go.RowKit
section
variable {P : Program} {N B : Nat} {E : Env} {A W : World} {ops : Array Oper} {K : Exit → Env → World → Prop} {T : Tab} {l : List Res} {o : Oper}
theorem rd_back {w : World} (hw : cw B w = W) {b off : Nat} {ys : List Value} (hrd : RdV W b off ys) : ∃ ns : List Value, ns.length = ys.length ∧ ns.map cl = ys ∧ (∀ q ∈ ns, q.oneCell' = true) ∧ ∀ j q, ns[j]? = some q → w.cell? ((⟨b, off, none⟩ : Addr).add j) = some q := by
  obtain ⟨f, hf⟩ := Deep.choose_lt (α := Value) hrd
  have hcells : Cells W b off ((List.range ys.length).map f) := by
    intro j q hj
    have hjl : j < ys.length := by
      have := (List.getElem?_eq_some_iff.1 hj).1
      simpa using this
    simp [hjl] at hj
    subst hj
    exact (hf j hjl).1
  have hmap : ((List.range ys.length).map f).map cl = ys := by
    apply List.ext_getElem?
    intro j
    by_cases hj : j < ys.length
    · have := (hf j hj).2.1
      simp [hj, this, List.getD_eq_getElem?_getD]
    · simp [hj]
  have hone : ∀ q ∈ (List.range ys.length).map f, q.oneCell' = true := by
    intro q hq
    obtain ⟨j, hj, rfl⟩ := List.mem_map.1 hq
    exact (hf j (List.mem_range.1 hj)).2.2
  obtain ⟨ns, h1, h2, h3⟩ := cells_back hw _ b off hcells
  refine ⟨ns, by simpa using h1, by rw [h2, hmap], ?_, fun j q hj => by rw [Addr.add_lit]; exact h3 j q hj⟩
  intro q hq
  have h4 : cl q ∈ ns.map cl := List.mem_map_of_mem hq
  rw [h2] at h4
  obtain ⟨q', h5, h6⟩ := List.mem_map.1 h4
  have h7 := hone q' h5
  have h8 : (cl q).oneCell' = true := by rw [← h6, oneCell_cl]; exact h7
  rwa [oneCell_cl] at h8
theorem yh_appendFull (hT : TabOk P T) {e : TypeId} {tt : TT} {v u : Value} {n m : Nat} {xs ys : List Value} (hv : evAp T E o = some (e, v, u)) (ht : T.at e = some tt) (H : Hp B A W l) (hsz1 : tt.size = 1) (hz : tt.zero.cells.size = tt.size) (hb : tt.bytes ≤ 64)
    {b off : Nat} (hvv : v = .slice (some ⟨b, off, none⟩) n n) (hx : RdV W b off xs) (hxl : xs.length = n) (hxc : Canl xs) {b' off' c' : Nat} (huu : u = .slice (some ⟨b', off', none⟩) m c') (hy : RdV W b' off' ys) (hyl : ys.length = m) (hyc : Canl ys) (hm : 0 < m) (hnm : n + m ≤ 1099511627776) :
    Go.Proofs.Ytkbcbbcacabelaa.Cn.Yields P N B o E W (fun v' W' => ∃ a c, v' = .slice a (n + m) c ∧ Hp B A W' (.row e 1 v' (n + m) (xs ++ ys) :: l)) := by
  subst hvv huu
  intro a w ha hw hB
  obtain ⟨x, y, t, hop, hu, hev⟩ := evAp_spec (N := N) hT hv
  obtain ⟨-, ii, hi, hsz, hby, hzz⟩ := hT _ _ ht
  obtain ⟨e1, e2⟩ := hev a ha
  obtain ⟨us, u1, u2, u3, u4⟩ := rd_back hw hx
  obtain ⟨ns, n1, n2, n3, n4⟩ := rd_back hw hy
  have hs1 : ii.size = 1 := by rw [hsz, hsz1]
  have hbb : (n + m) * ii.bytes ≤ 1099511627776 * 64 := Nat.mul_le_mul hnm (by rw [hby]; exact hb)
  have hr := run_append_grow (P := P) w t o.type e ii tt.zero hu hi hzz ⟨b, off, none⟩ n n us (by rw [u1, hxl, hs1, Nat.mul_one]) u4 ⟨b', off', none⟩ m c' ns (by rw [n1, hyl, hs1, Nat.mul_one]) n4 (by omega) (by omega) (growslice_fits (by omega) (by omega))
  have hge := grownCap_ge w (n + m) n e
  have hle := grownCap_le_maxLen w (n + m) n e (by simp only [maxLen]; omega)
  refine ⟨_, _, run_builtin hop (fun cs => by simp [builtin, e1, e2, hr]; exact ⟨rfl, rfl⟩), by simp; omega, ?_⟩
  have hWs : W.heap.size = w.heap.size := by rw [← hw]; simp
  refine ⟨some ⟨w.heap.size, 0, none⟩, grownCap w (n + m) n e, rfl, ?_⟩
  rw [cw_alloc (w := w.drew) hB, cw_drew, hw, ← hWs]
  refine H.allocRow (sz := 1) (c := xs ++ ys) ?_ hge hle ?_ ?_ ?_
  · have hl : (us.map cl ++ ns.map cl).length = n + m := by rw [List.length_append, u2, n2, hxl, hyl]
    simp only [Array.toList_map, Array.toList_append, List.map_append, Nat.mul_one]
    rw [← List.map_append, List.map_append, List.take_append_of_le_length (by rw [hl]; exact Nat.le_refl _), List.take_of_length_le (by rw [hl]; exact Nat.le_refl _), u2, n2]
  · simp only [Array.size_map, Array.size_append, size_zeroCells, hz, hsz1, List.size_toArray, List.length_append, u1, n1, hxl, hyl]
    omega
  · rw [← u2, ← n2, ← List.map_append, List.all_map, List.all_eq_true]
    intro q hq
    simp only [Function.comp, oneCell_cl]
    rcases List.mem_append.1 hq with h | h
    · exact u3 q h
    · exact n3 q h
  · intro q hq
    rcases List.mem_append.1 hq with h | h
    · exact hxc q h
    · exact hyc q h
end
end Go.Proofs.Ytkbcbbcacabelaa
namespace Go.Proofs.Ytkbcbbcacabelaa
set_option linter.unusedSimpArgs false
set_option linter.unusedVariables false
open Go Cn Go.RowKit
theorem leL_2 (n : Int) : leL n 2 = [n % 256, n / 256 % 256] := by
  rw [leL_succ, leL_succ, leL_zero]; simp
theorem leL_4 (n : Int) : leL n 4 = [n % 256, n / 256 % 256, n / 65536 % 256, n / 16777216 % 256] := by
  rw [leL_succ, leL_succ, leL_succ, leL_succ, leL_zero]; simp
section
variable {P : Program} {N B : Nat} {E : Env} {W : World} {o : Oper}
theorem gives_div {k : IntKind} {n m : Int} (hv : evD E o = some (.quo, k, n, m)) (h0 : 0 ≤ n) (h1 : 1 ≤ m) (hr : InR k n) : Gives P N B o E W (.int k (n / m)) W := by
  refine gives_of fun a w ha hw hB => ⟨.int k (n / m), w, evD_run hv ha w ?_, rfl, rfl⟩
  have e : n.tdiv m = n / m := Int.tdiv_eq_ediv_of_nonneg h0
  have hd1 : n / m ≤ n := Int.ediv_le_self m h0
  have hd2 : 0 ≤ n / m := Int.ediv_nonneg h0 (by omega)
  have hw : k.wrap (n / m) = n / m := wrap_inR (by cases k <;> simp only [InR] at hr ⊢ <;> omega)
  simp [binOp, Op.intDiv, e, hw, show m ≠ 0 by omega]
theorem gives_rem {k : IntKind} {n m : Int} (hv : evD E o = some (.rem, k, n, m)) (h0 : 0 ≤ n) (h1 : 1 ≤ m) : Gives P N B o E W (.int k (n % m)) W := by
  refine gives_of fun a w ha hw hB => ⟨.int k (n % m), w, evD_run hv ha w ?_, rfl, rfl⟩
  have e : n.tmod m = n % m := Int.tmod_eq_emod_of_nonneg h0
  simp [binOp, Op.intDiv, e, show m ≠ 0 by omega]
theorem rowB {B : Nat} {A W : World} {l : List Res} {v v' : Value} {n n' : Nat} {xs : List Value} {ys : List Int} (H : Hp B A W (.row 5 1 v n xs :: l)) (hv : v = v') (hn : n = n') (hx : xs = u8s ys) : Hp B A W (.row 5 1 v' n' (u8s ys) :: l) := by subst hv hn hx; exact H
end
theorem bI_nums {xs : List Int} (h : ∀ x ∈ xs, 0 ≤ x ∧ x < 256) : bI (strOfNums xs) = xs := by
  unfold bI
  rw [bL_nums h, List.map_map]
  conv => rhs; rw [← List.map_id xs]
  apply List.map_congr_left
  intro x hx
  have := h x hx
  simp only [Function.comp, id]
  omega
section
variable {B : Nat} {A W W' : World} {L : List Res}
set_option maxHeartbeats 4000000 in
theorem c_spec_l07Store {b : Nat} {e : TypeId} {s : ByteArray} {st sp : Int} {a : Option Addr} {c : Nat} {xs : List Nat} (hb : Blkc W b [.string s, .int .i64 st, .int .i64 sp, .slice a xs.length c] e) (hx : SlF W (.slice a xs.length c) xs) (hca : cv (.slice a xs.length c) = .slice a xs.length c) (hs : s.size ≤ 255) (hl : xs.length ≤ 128) (hbd : Bd xs) (hst : 0 ≤ st ∧ st ≤ 4294967295) (hsp : 0 ≤ sp ∧ sp ≤ 65535) (hB : B ≤ W.heap.size) :
    ACalls Try.prog B 59 [.pointer (some ⟨b, 0, none⟩)] W (fun r W' => r = .string (storeS s st sp xs) ∧ Below W.heap.size W W') := by
  have hpl := packTo_len xs xs.length
  refine acalls_of Try.func59 rfl Try.ntmps59 (Nat.le_of_ble_eq_true rfl) ?_
  repeat' (first
      | refine s_pure tabOk rfl rfl rfl rfl ?_
      | refine aops_nil ?_
      | refine thn_normal ?_
      | refine aw_seq ?_
      | refine aw_reg ?_
      | refine s_pass rfl rfl rfl ?_
      | refine s_len tabOk rfl rfl rfl rfl ?_
      | refine aw_true rfl ?_
      | refine aw_false rfl ?_
      | refine aw_block ?_
      | refine aw_skip ?_
      | refine aw_exit ?_
      | refine blk_exit ?_
      | refine blk_exit_other rfl ?_
      | refine blk_normal ?_
      | refine thn_exit ?_
      | refine thn_ret ?_
      | refine blk_ret ?_
      | refine rnd_ret ?_
      | refine rnd_exit ?_
      | refine aw_ret ?_
      | refine s_arith tabOk rfl rfl rfl rfl (by simp only [InR]; omega) ?_
      | ((fail_if_success refine s_told rfl rfl ?_); refine s_part rfl rfl rfl ?_ ?_ <;> intro hc <;> (first | replace hc := of_decide_eq_true hc | replace hc := of_decide_eq_false hc | replace hc := eq_of_beq hc | skip))
      | (refine aw_if rfl ?_ ?_ <;> intro hc <;> (first | replace hc := of_decide_eq_true hc | replace hc := of_decide_eq_false hc | replace hc := eq_of_beq hc | skip))
      | refine s_index1 tabOk rfl rfl rfl rfl (by omega) (by omega) ?_)
  refine s_buildSlice tabOk rfl rfl rfl rfl rfl (by simp [Value.cells]) (by decide) (by decide) (by decide) ?_
  have hR := rowm_new (W := W) (base := W.heap.size) (e := 5) (vs := u8s [82, 73, 86, 49]) (Nat.le_refl _) (by simp [u8s, Value.oneCell', cl])
  have hG : Below W.heap.size W (W.alloc (.cells (cellsAll (u8s [82, 73, 86, 49])) 5)) := (Below.refl _ _).alloc (Nat.le_refl _) _
  refine s_yields rfl rfl rfl (yields_markBytes tabOk rfl hR hG.size) ?_
  rintro _ W2 ⟨rfl, hR2, -, hb2, -⟩
  have hG2 := hG.trans hb2
  clear hR hG hb2
  have H2 : Hp B W2 W2 [] := Hp.new (Nat.le_trans hB hG2.size)
  have bk : ∀ {W' : World} {L : List Res}, Hp B W2 W' L → Blkc W' b [.string s, .int .i64 st, .int .i64 sp, .slice a xs.length c] e := fun H => by
    have h1 := hb.lt
    unfold Blkc at hb ⊢
    rw [((hG2.trans (H.below.mono hG2.size)).block b h1)]; exact hb
  repeat' (first | refine s_pure tabOk rfl rfl rfl rfl ?_ | refine Stp.imp ?_ | refine aops_nil ?_ | refine aw_reg ?_ | refine aw_seq ?_ | refine s_pass rfl rfl rfl ?_ | refine s_len tabOk rfl rfl rfl rfl ?_ | refine aw_true rfl ?_ | refine aw_false rfl ?_ | refine blk_exit_other rfl ?_ | refine s_arith tabOk rfl rfl rfl rfl (by simp only [InR]; omega) ?_ | ((first | ((fail_if_success refine s_told rfl rfl ?_); refine s_part rfl rfl rfl ?_ ?_) | refine aw_if rfl ?_ ?_) <;> intro hc <;> (first | replace hc := DecT.imp hc | simp only [decs] at hc | skip)) | refine s_index1n tabOk rfl rfl rfl rfl (by omega) ?_ | refine s_indexn tabOk rfl rfl rfl rfl (by omega) ?_ | refine s_index1 tabOk rfl rfl rfl rfl (by omega) (by omega) ?_ | refine sh_load tabOk (by assumption) rfl rfl rfl rfl (by repeat (first | exact List.Mem.head _ | apply List.Mem.tail)) (by rfl) (by rfl) ?_ | refine sh_loada tabOk (by assumption) rfl rfl rfl rfl (by repeat (first | exact List.Mem.head _ | apply List.Mem.tail)) (by rfl) ?_ | (refine sh_box (by assumption) rfl rfl rfl rfl rfl rfl ?_; intro _ _ _) | (refine sh_alloc tabOk (by assumption) rfl rfl rfl rfl rfl rfl ?_; intro _ _ _) | (refine sh_store tabOk (by assumption) rfl rfl rfl rfl rfl rfl (by repeat (first | exact Upd.here | apply Upd.there)) (by rfl) ?_; intro _ _) | (refine sh_lit tabOk (by assumption) rfl rfl rfl rfl rfl rfl rfl rfl rfl rfl rfl ?_; intro _ _ _) | refine sh_build tabOk rfl rfl rfl rfl rfl rfl ?_)
  refine s_load tabOk rfl rfl rfl rfl ((bk (by assumption)).cell (j := 0) rfl) rfl ?_
  rw [show cl (Value.string s) = .string s from rfl]
  repeat' (first | refine s_pure tabOk rfl rfl rfl rfl ?_ | refine Stp.imp ?_ | refine aops_nil ?_ | refine aw_reg ?_ | refine aw_seq ?_ | refine s_pass rfl rfl rfl ?_ | refine s_len tabOk rfl rfl rfl rfl ?_ | refine aw_true rfl ?_ | refine aw_false rfl ?_ | refine blk_exit_other rfl ?_ | refine s_arith tabOk rfl rfl rfl rfl (by simp only [InR]; omega) ?_ | ((first | ((fail_if_success refine s_told rfl rfl ?_); refine s_part rfl rfl rfl ?_ ?_) | refine aw_if rfl ?_ ?_) <;> intro hc <;> (first | replace hc := DecT.imp hc | simp only [decs] at hc | skip)) | refine s_index1n tabOk rfl rfl rfl rfl (by omega) ?_ | refine s_indexn tabOk rfl rfl rfl rfl (by omega) ?_ | refine s_index1 tabOk rfl rfl rfl rfl (by omega) (by omega) ?_ | refine sh_load tabOk (by assumption) rfl rfl rfl rfl (by repeat (first | exact List.Mem.head _ | apply List.Mem.tail)) (by rfl) (by rfl) ?_ | refine sh_loada tabOk (by assumption) rfl rfl rfl rfl (by repeat (first | exact List.Mem.head _ | apply List.Mem.tail)) (by rfl) ?_ | (refine sh_box (by assumption) rfl rfl rfl rfl rfl rfl ?_; intro _ _ _) | (refine sh_alloc tabOk (by assumption) rfl rfl rfl rfl rfl rfl ?_; intro _ _ _) | (refine sh_store tabOk (by assumption) rfl rfl rfl rfl rfl rfl (by repeat (first | exact Upd.here | apply Upd.there)) (by rfl) ?_; intro _ _) | (refine sh_lit tabOk (by assumption) rfl rfl rfl rfl rfl rfl rfl rfl rfl rfl rfl ?_; intro _ _ _) | refine sh_build tabOk rfl rfl rfl rfl rfl rfl ?_)
  rename_i b3 W3 H3
  have hR3 := Rowm.keeps hR2 (Keeps.of H3.below)
  obtain ⟨b0, cs0, fz0, e0, -, -, -, rd0⟩ := hR3
  cases e0
  refine s_yields rfl rfl rfl (yh_appendFull (n := 4) (m := 1) tabOk rfl rfl (H3.sub (List.sublist_cons_self ..)) rfl rfl (by decide) rfl rd0 rfl (by simp [Canl, u8s, cl]) rfl (H3.rowRd (List.mem_cons_self ..)) rfl (by simp [Canl, cl]) (by decide) (by decide)) ?_
  rintro _ W4 ⟨a4, c4, rfl, H4⟩
  have H4 := rowB (ys := [82, 73, 86, 49] ++ [(s.size : Int)]) H4 rfl rfl rfl
  generalize hq4 : ([82, 73, 86, 49] ++ [(s.size : Int)] : List Int) = L4 at H4
  have n4 : (4 + 1 : Nat) = L4.length := by rw [← hq4]; rfl
  rw [show Value.slice a4 (4 + 1) c4 = .slice a4 L4.length c4 by rw [n4]] at H4 ⊢
  rw [n4] at H4
  repeat' (first | refine s_pure tabOk rfl rfl rfl rfl ?_ | refine Stp.imp ?_ | refine aops_nil ?_ | refine aw_reg ?_ | refine aw_seq ?_ | refine s_pass rfl rfl rfl ?_ | refine s_len tabOk rfl rfl rfl rfl ?_ | refine aw_true rfl ?_ | refine aw_false rfl ?_ | refine blk_exit_other rfl ?_ | refine s_arith tabOk rfl rfl rfl rfl (by simp only [InR]; omega) ?_ | ((first | ((fail_if_success refine s_told rfl rfl ?_); refine s_part rfl rfl rfl ?_ ?_) | refine aw_if rfl ?_ ?_) <;> intro hc <;> (first | replace hc := DecT.imp hc | simp only [decs] at hc | skip)) | refine s_index1n tabOk rfl rfl rfl rfl (by omega) ?_ | refine s_indexn tabOk rfl rfl rfl rfl (by omega) ?_ | refine s_index1 tabOk rfl rfl rfl rfl (by omega) (by omega) ?_ | refine sh_load tabOk (by assumption) rfl rfl rfl rfl (by repeat (first | exact List.Mem.head _ | apply List.Mem.tail)) (by rfl) (by rfl) ?_ | refine sh_loada tabOk (by assumption) rfl rfl rfl rfl (by repeat (first | exact List.Mem.head _ | apply List.Mem.tail)) (by rfl) ?_ | (refine sh_box (by assumption) rfl rfl rfl rfl rfl rfl ?_; intro _ _ _) | (refine sh_alloc tabOk (by assumption) rfl rfl rfl rfl rfl rfl ?_; intro _ _ _) | (refine sh_store tabOk (by assumption) rfl rfl rfl rfl rfl rfl (by repeat (first | exact Upd.here | apply Upd.there)) (by rfl) ?_; intro _ _) | (refine sh_lit tabOk (by assumption) rfl rfl rfl rfl rfl rfl rfl rfl rfl rfl rfl ?_; intro _ _ _) | refine sh_build tabOk rfl rfl rfl rfl rfl rfl ?_)
  refine s_load tabOk rfl rfl rfl rfl ((bk (by assumption)).cell (j := 0) rfl) rfl ?_
  rw [show cl (Value.string s) = .string s from rfl]
  refine s_yields rfl rfl rfl (yields_strBytes tabOk rfl) ?_
  rintro _ W5 ⟨a5, c5, rfl, sl5, hb5⟩
  have H5 := Hp.grow H4 hb5
  refine sh_append tabOk H5 rfl rfl rfl rfl rfl rfl rfl rfl rfl (fun _ _ => (by repeat (first | exact Upd.here | apply Upd.there))) sl5 (by rw [bI_len]; omega) ?_
  intro a6 c6 W6 H6
  clear H5 H4
  have H6 := rowB (ys := L4 ++ bI s) H6 rfl rfl (by simp [u8s])
  obtain ⟨L6, q6⟩ : ∃ L, L = L4 ++ bI s := ⟨_, rfl⟩
  have n6 : L4.length + (bI s).length = L6.length := by rw [q6]; simp [bI_len, leL_len]
  rw [← q6] at H6
  rw [show Value.slice a6 (L4.length + (bI s).length) c6 = .slice a6 L6.length c6 by rw [n6]] at H6 ⊢
  rw [n6] at H6
  have len6 : L6.length = 5 + s.size := by rw [← n6, ← n4, bI_len]
  clear hb5 sl5 rd0 hR2
  repeat' (first | refine s_pure tabOk rfl rfl rfl rfl ?_ | refine Stp.imp ?_ | refine aops_nil ?_ | refine aw_reg ?_ | refine aw_seq ?_ | refine s_pass rfl rfl rfl ?_ | refine s_len tabOk rfl rfl rfl rfl ?_ | refine aw_true rfl ?_ | refine aw_false rfl ?_ | refine blk_exit_other rfl ?_ | refine s_arith tabOk rfl rfl rfl rfl (by simp only [InR]; omega) ?_ | ((first | ((fail_if_success refine s_told rfl rfl ?_); refine s_part rfl rfl rfl ?_ ?_) | refine aw_if rfl ?_ ?_) <;> intro hc <;> (first | replace hc := DecT.imp hc | simp only [decs] at hc | skip)) | refine s_index1n tabOk rfl rfl rfl rfl (by omega) ?_ | refine s_indexn tabOk rfl rfl rfl rfl (by omega) ?_ | refine s_index1 tabOk rfl rfl rfl rfl (by omega) (by omega) ?_ | refine sh_load tabOk (by assumption) rfl rfl rfl rfl (by repeat (first | exact List.Mem.head _ | apply List.Mem.tail)) (by rfl) (by rfl) ?_ | refine sh_loada tabOk (by assumption) rfl rfl rfl rfl (by repeat (first | exact List.Mem.head _ | apply List.Mem.tail)) (by rfl) ?_ | (refine sh_box (by assumption) rfl rfl rfl rfl rfl rfl ?_; intro _ _ _) | (refine sh_alloc tabOk (by assumption) rfl rfl rfl rfl rfl rfl ?_; intro _ _ _) | (refine sh_store tabOk (by assumption) rfl rfl rfl rfl rfl rfl (by repeat (first | exact Upd.here | apply Upd.there)) (by rfl) ?_; intro _ _) | (refine sh_lit tabOk (by assumption) rfl rfl rfl rfl rfl rfl rfl rfl rfl rfl rfl ?_; intro _ _ _) | refine sh_build tabOk rfl rfl rfl rfl rfl rfl ?_)
  refine s_load tabOk rfl rfl rfl rfl ((bk (by assumption)).cell (j := 1) rfl) rfl ?_
  rw [show cl (Value.int .i64 st) = Value.int .i64 st from rfl]
  repeat' (first | refine s_pure tabOk rfl rfl rfl rfl ?_ | refine Stp.imp ?_ | refine aops_nil ?_ | refine aw_reg ?_ | refine aw_seq ?_ | refine s_pass rfl rfl rfl ?_ | refine s_len tabOk rfl rfl rfl rfl ?_ | refine aw_true rfl ?_ | refine aw_false rfl ?_ | refine blk_exit_other rfl ?_ | refine s_arith tabOk rfl rfl rfl rfl (by simp only [InR]; omega) ?_ | ((first | ((fail_if_success refine s_told rfl rfl ?_); refine s_part rfl rfl rfl ?_ ?_) | refine aw_if rfl ?_ ?_) <;> intro hc <;> (first | replace hc := DecT.imp hc | simp only [decs] at hc | skip)) | refine s_index1n tabOk rfl rfl rfl rfl (by omega) ?_ | refine s_indexn tabOk rfl rfl rfl rfl (by omega) ?_ | refine s_index1 tabOk rfl rfl rfl rfl (by omega) (by omega) ?_ | refine sh_load tabOk (by assumption) rfl rfl rfl rfl (by repeat (first | exact List.Mem.head _ | apply List.Mem.tail)) (by rfl) (by rfl) ?_ | refine sh_loada tabOk (by assumption) rfl rfl rfl rfl (by repeat (first | exact List.Mem.head _ | apply List.Mem.tail)) (by rfl) ?_ | (refine sh_box (by assumption) rfl rfl rfl rfl rfl rfl ?_; intro _ _ _) | (refine sh_alloc tabOk (by assumption) rfl rfl rfl rfl rfl rfl ?_; intro _ _ _) | (refine sh_store tabOk (by assumption) rfl rfl rfl rfl rfl rfl (by repeat (first | exact Upd.here | apply Upd.there)) (by rfl) ?_; intro _ _) | (refine sh_lit tabOk (by assumption) rfl rfl rfl rfl rfl rfl rfl rfl rfl rfl rfl ?_; intro _ _ _) | refine sh_build tabOk rfl rfl rfl rfl rfl rfl ?_)
  refine s_rem rfl rfl rfl rfl (by omega) (by decide) ?_
  repeat' (first | refine s_pure tabOk rfl rfl rfl rfl ?_ | refine Stp.imp ?_ | refine aops_nil ?_ | refine aw_reg ?_ | refine aw_seq ?_ | refine s_pass rfl rfl rfl ?_ | refine s_len tabOk rfl rfl rfl rfl ?_ | refine aw_true rfl ?_ | refine aw_false rfl ?_ | refine blk_exit_other rfl ?_ | refine s_arith tabOk rfl rfl rfl rfl (by simp only [InR]; omega) ?_ | ((first | ((fail_if_success refine s_told rfl rfl ?_); refine s_part rfl rfl rfl ?_ ?_) | refine aw_if rfl ?_ ?_) <;> intro hc <;> (first | replace hc := DecT.imp hc | simp only [decs] at hc | skip)) | refine s_index1n tabOk rfl rfl rfl rfl (by omega) ?_ | refine s_indexn tabOk rfl rfl rfl rfl (by omega) ?_ | refine s_index1 tabOk rfl rfl rfl rfl (by omega) (by omega) ?_ | refine sh_load tabOk (by assumption) rfl rfl rfl rfl (by repeat (first | exact List.Mem.head _ | apply List.Mem.tail)) (by rfl) (by rfl) ?_ | refine sh_loada tabOk (by assumption) rfl rfl rfl rfl (by repeat (first | exact List.Mem.head _ | apply List.Mem.tail)) (by rfl) ?_ | (refine sh_box (by assumption) rfl rfl rfl rfl rfl rfl ?_; intro _ _ _) | (refine sh_alloc tabOk (by assumption) rfl rfl rfl rfl rfl rfl ?_; intro _ _ _) | (refine sh_store tabOk (by assumption) rfl rfl rfl rfl rfl rfl (by repeat (first | exact Upd.here | apply Upd.there)) (by rfl) ?_; intro _ _) | (refine sh_lit tabOk (by assumption) rfl rfl rfl rfl rfl rfl rfl rfl rfl rfl rfl ?_; intro _ _ _) | refine sh_build tabOk rfl rfl rfl rfl rfl rfl ?_)
  refine s_div rfl rfl rfl rfl (by omega) (by decide) (by simp only [InR]; omega) ?_
  repeat' (first | refine s_pure tabOk rfl rfl rfl rfl ?_ | refine Stp.imp ?_ | refine aops_nil ?_ | refine aw_reg ?_ | refine aw_seq ?_ | refine s_pass rfl rfl rfl ?_ | refine s_len tabOk rfl rfl rfl rfl ?_ | refine aw_true rfl ?_ | refine aw_false rfl ?_ | refine blk_exit_other rfl ?_ | refine s_arith tabOk rfl rfl rfl rfl (by simp only [InR]; omega) ?_ | ((first | ((fail_if_success refine s_told rfl rfl ?_); refine s_part rfl rfl rfl ?_ ?_) | refine aw_if rfl ?_ ?_) <;> intro hc <;> (first | replace hc := DecT.imp hc | simp only [decs] at hc | skip)) | refine s_index1n tabOk rfl rfl rfl rfl (by omega) ?_ | refine s_indexn tabOk rfl rfl rfl rfl (by omega) ?_ | refine s_index1 tabOk rfl rfl rfl rfl (by omega) (by omega) ?_ | refine sh_load tabOk (by assumption) rfl rfl rfl rfl (by repeat (first | exact List.Mem.head _ | apply List.Mem.tail)) (by rfl) (by rfl) ?_ | refine sh_loada tabOk (by assumption) rfl rfl rfl rfl (by repeat (first | exact List.Mem.head _ | apply List.Mem.tail)) (by rfl) ?_ | (refine sh_box (by assumption) rfl rfl rfl rfl rfl rfl ?_; intro _ _ _) | (refine sh_alloc tabOk (by assumption) rfl rfl rfl rfl rfl rfl ?_; intro _ _ _) | (refine sh_store tabOk (by assumption) rfl rfl rfl rfl rfl rfl (by repeat (first | exact Upd.here | apply Upd.there)) (by rfl) ?_; intro _ _) | (refine sh_lit tabOk (by assumption) rfl rfl rfl rfl rfl rfl rfl rfl rfl rfl rfl ?_; intro _ _ _) | refine sh_build tabOk rfl rfl rfl rfl rfl rfl ?_)
  refine s_rem rfl rfl rfl rfl (by omega) (by decide) ?_
  repeat' (first | refine s_pure tabOk rfl rfl rfl rfl ?_ | refine Stp.imp ?_ | refine aops_nil ?_ | refine aw_reg ?_ | refine aw_seq ?_ | refine s_pass rfl rfl rfl ?_ | refine s_len tabOk rfl rfl rfl rfl ?_ | refine aw_true rfl ?_ | refine aw_false rfl ?_ | refine blk_exit_other rfl ?_ | refine s_arith tabOk rfl rfl rfl rfl (by simp only [InR]; omega) ?_ | ((first | ((fail_if_success refine s_told rfl rfl ?_); refine s_part rfl rfl rfl ?_ ?_) | refine aw_if rfl ?_ ?_) <;> intro hc <;> (first | replace hc := DecT.imp hc | simp only [decs] at hc | skip)) | refine s_index1n tabOk rfl rfl rfl rfl (by omega) ?_ | refine s_indexn tabOk rfl rfl rfl rfl (by omega) ?_ | refine s_index1 tabOk rfl rfl rfl rfl (by omega) (by omega) ?_ | refine sh_load tabOk (by assumption) rfl rfl rfl rfl (by repeat (first | exact List.Mem.head _ | apply List.Mem.tail)) (by rfl) (by rfl) ?_ | refine sh_loada tabOk (by assumption) rfl rfl rfl rfl (by repeat (first | exact List.Mem.head _ | apply List.Mem.tail)) (by rfl) ?_ | (refine sh_box (by assumption) rfl rfl rfl rfl rfl rfl ?_; intro _ _ _) | (refine sh_alloc tabOk (by assumption) rfl rfl rfl rfl rfl rfl ?_; intro _ _ _) | (refine sh_store tabOk (by assumption) rfl rfl rfl rfl rfl rfl (by repeat (first | exact Upd.here | apply Upd.there)) (by rfl) ?_; intro _ _) | (refine sh_lit tabOk (by assumption) rfl rfl rfl rfl rfl rfl rfl rfl rfl rfl rfl ?_; intro _ _ _) | refine sh_build tabOk rfl rfl rfl rfl rfl rfl ?_)
  refine s_div rfl rfl rfl rfl (by omega) (by decide) (by simp only [InR]; omega) ?_
  repeat' (first | refine s_pure tabOk rfl rfl rfl rfl ?_ | refine Stp.imp ?_ | refine aops_nil ?_ | refine aw_reg ?_ | refine aw_seq ?_ | refine s_pass rfl rfl rfl ?_ | refine s_len tabOk rfl rfl rfl rfl ?_ | refine aw_true rfl ?_ | refine aw_false rfl ?_ | refine blk_exit_other rfl ?_ | refine s_arith tabOk rfl rfl rfl rfl (by simp only [InR]; omega) ?_ | ((first | ((fail_if_success refine s_told rfl rfl ?_); refine s_part rfl rfl rfl ?_ ?_) | refine aw_if rfl ?_ ?_) <;> intro hc <;> (first | replace hc := DecT.imp hc | simp only [decs] at hc | skip)) | refine s_index1n tabOk rfl rfl rfl rfl (by omega) ?_ | refine s_indexn tabOk rfl rfl rfl rfl (by omega) ?_ | refine s_index1 tabOk rfl rfl rfl rfl (by omega) (by omega) ?_ | refine sh_load tabOk (by assumption) rfl rfl rfl rfl (by repeat (first | exact List.Mem.head _ | apply List.Mem.tail)) (by rfl) (by rfl) ?_ | refine sh_loada tabOk (by assumption) rfl rfl rfl rfl (by repeat (first | exact List.Mem.head _ | apply List.Mem.tail)) (by rfl) ?_ | (refine sh_box (by assumption) rfl rfl rfl rfl rfl rfl ?_; intro _ _ _) | (refine sh_alloc tabOk (by assumption) rfl rfl rfl rfl rfl rfl ?_; intro _ _ _) | (refine sh_store tabOk (by assumption) rfl rfl rfl rfl rfl rfl (by repeat (first | exact Upd.here | apply Upd.there)) (by rfl) ?_; intro _ _) | (refine sh_lit tabOk (by assumption) rfl rfl rfl rfl rfl rfl rfl rfl rfl rfl rfl ?_; intro _ _ _) | refine sh_build tabOk rfl rfl rfl rfl rfl rfl ?_)
  refine s_rem rfl rfl rfl rfl (by omega) (by decide) ?_
  repeat' (first | refine s_pure tabOk rfl rfl rfl rfl ?_ | refine Stp.imp ?_ | refine aops_nil ?_ | refine aw_reg ?_ | refine aw_seq ?_ | refine s_pass rfl rfl rfl ?_ | refine s_len tabOk rfl rfl rfl rfl ?_ | refine aw_true rfl ?_ | refine aw_false rfl ?_ | refine blk_exit_other rfl ?_ | refine s_arith tabOk rfl rfl rfl rfl (by simp only [InR]; omega) ?_ | ((first | ((fail_if_success refine s_told rfl rfl ?_); refine s_part rfl rfl rfl ?_ ?_) | refine aw_if rfl ?_ ?_) <;> intro hc <;> (first | replace hc := DecT.imp hc | simp only [decs] at hc | skip)) | refine s_index1n tabOk rfl rfl rfl rfl (by omega) ?_ | refine s_indexn tabOk rfl rfl rfl rfl (by omega) ?_ | refine s_index1 tabOk rfl rfl rfl rfl (by omega) (by omega) ?_ | refine sh_load tabOk (by assumption) rfl rfl rfl rfl (by repeat (first | exact List.Mem.head _ | apply List.Mem.tail)) (by rfl) (by rfl) ?_ | refine sh_loada tabOk (by assumption) rfl rfl rfl rfl (by repeat (first | exact List.Mem.head _ | apply List.Mem.tail)) (by rfl) ?_ | (refine sh_box (by assumption) rfl rfl rfl rfl rfl rfl ?_; intro _ _ _) | (refine sh_alloc tabOk (by assumption) rfl rfl rfl rfl rfl rfl ?_; intro _ _ _) | (refine sh_store tabOk (by assumption) rfl rfl rfl rfl rfl rfl (by repeat (first | exact Upd.here | apply Upd.there)) (by rfl) ?_; intro _ _) | (refine sh_lit tabOk (by assumption) rfl rfl rfl rfl rfl rfl rfl rfl rfl rfl rfl ?_; intro _ _ _) | refine sh_build tabOk rfl rfl rfl rfl rfl rfl ?_)
  refine s_div rfl rfl rfl rfl (by omega) (by decide) (by simp only [InR]; omega) ?_
  repeat' (first | refine s_pure tabOk rfl rfl rfl rfl ?_ | refine Stp.imp ?_ | refine aops_nil ?_ | refine aw_reg ?_ | refine aw_seq ?_ | refine s_pass rfl rfl rfl ?_ | refine s_len tabOk rfl rfl rfl rfl ?_ | refine aw_true rfl ?_ | refine aw_false rfl ?_ | refine blk_exit_other rfl ?_ | refine s_arith tabOk rfl rfl rfl rfl (by simp only [InR]; omega) ?_ | ((first | ((fail_if_success refine s_told rfl rfl ?_); refine s_part rfl rfl rfl ?_ ?_) | refine aw_if rfl ?_ ?_) <;> intro hc <;> (first | replace hc := DecT.imp hc | simp only [decs] at hc | skip)) | refine s_index1n tabOk rfl rfl rfl rfl (by omega) ?_ | refine s_indexn tabOk rfl rfl rfl rfl (by omega) ?_ | refine s_index1 tabOk rfl rfl rfl rfl (by omega) (by omega) ?_ | refine sh_load tabOk (by assumption) rfl rfl rfl rfl (by repeat (first | exact List.Mem.head _ | apply List.Mem.tail)) (by rfl) (by rfl) ?_ | refine sh_loada tabOk (by assumption) rfl rfl rfl rfl (by repeat (first | exact List.Mem.head _ | apply List.Mem.tail)) (by rfl) ?_ | (refine sh_box (by assumption) rfl rfl rfl rfl rfl rfl ?_; intro _ _ _) | (refine sh_alloc tabOk (by assumption) rfl rfl rfl rfl rfl rfl ?_; intro _ _ _) | (refine sh_store tabOk (by assumption) rfl rfl rfl rfl rfl rfl (by repeat (first | exact Upd.here | apply Upd.there)) (by rfl) ?_; intro _ _) | (refine sh_lit tabOk (by assumption) rfl rfl rfl rfl rfl rfl rfl rfl rfl rfl rfl ?_; intro _ _ _) | refine sh_build tabOk rfl rfl rfl rfl rfl rfl ?_)
  rename_i b7 W7 H7
  refine sh_append tabOk H7 rfl rfl rfl rfl rfl rfl rfl rfl rfl (fun _ _ => (by repeat (first | exact Upd.here | apply Upd.there))) (H7.row_sl (List.mem_cons_self ..)) (by omega) ?_
  intro a8 c8 W8 H8
  have H8 := H8.sub (List.sublist_cons_self ..)
  have H8 := rowB (ys := L6 ++ leL st 4) H8 rfl rfl (by rw [leL_4]; simp [u8s]; omega)
  obtain ⟨L8, q8⟩ : ∃ L, L = L6 ++ leL st 4 := ⟨_, rfl⟩
  have n8 : L6.length + 4 = L8.length := by rw [q8]; simp [bI_len, leL_len]
  rw [← q8] at H8
  rw [show Value.slice a8 (L6.length + 4) c8 = .slice a8 L8.length c8 by rw [n8]] at H8 ⊢
  rw [n8] at H8
  have len8 : L8.length = 9 + s.size := by omega
  repeat' (first | refine s_pure tabOk rfl rfl rfl rfl ?_ | refine Stp.imp ?_ | refine aops_nil ?_ | refine aw_reg ?_ | refine aw_seq ?_ | refine s_pass rfl rfl rfl ?_ | refine s_len tabOk rfl rfl rfl rfl ?_ | refine aw_true rfl ?_ | refine aw_false rfl ?_ | refine blk_exit_other rfl ?_ | refine s_arith tabOk rfl rfl rfl rfl (by simp only [InR]; omega) ?_ | ((first | ((fail_if_success refine s_told rfl rfl ?_); refine s_part rfl rfl rfl ?_ ?_) | refine aw_if rfl ?_ ?_) <;> intro hc <;> (first | replace hc := DecT.imp hc | simp only [decs] at hc | skip)) | refine s_index1n tabOk rfl rfl rfl rfl (by omega) ?_ | refine s_indexn tabOk rfl rfl rfl rfl (by omega) ?_ | refine s_index1 tabOk rfl rfl rfl rfl (by omega) (by omega) ?_ | refine sh_load tabOk (by assumption) rfl rfl rfl rfl (by repeat (first | exact List.Mem.head _ | apply List.Mem.tail)) (by rfl) (by rfl) ?_ | refine sh_loada tabOk (by assumption) rfl rfl rfl rfl (by repeat (first | exact List.Mem.head _ | apply List.Mem.tail)) (by rfl) ?_ | (refine sh_box (by assumption) rfl rfl rfl rfl rfl rfl ?_; intro _ _ _) | (refine sh_alloc tabOk (by assumption) rfl rfl rfl rfl rfl rfl ?_; intro _ _ _) | (refine sh_store tabOk (by assumption) rfl rfl rfl rfl rfl rfl (by repeat (first | exact Upd.here | apply Upd.there)) (by rfl) ?_; intro _ _) | (refine sh_lit tabOk (by assumption) rfl rfl rfl rfl rfl rfl rfl rfl rfl rfl rfl ?_; intro _ _ _) | refine sh_build tabOk rfl rfl rfl rfl rfl rfl ?_)
  refine aw_told followsMixed (DH B W2 []) [0, 1, 2, 3, 4, 5, 6, 7, 8, 9, 10, 11, 12, 13, 14, 15] (by kernel_rfl) (H8.sub (List.nil_sublist _)) ?_
  repeat (first | refine so_pure tabOk lx rfl rfl rfl rfl (by kernel_rfl) ?_ | refine so_load' tabOk lx rfl rfl rfl rfl (by repeat (first | exact List.Mem.head _ | apply List.Mem.tail)) (by rfl) (by rfl) (by kernel_rfl) ?_ | refine so_loada' tabOk lx rfl rfl rfl rfl (by repeat (first | exact List.Mem.head _ | apply List.Mem.tail)) (by rfl) (by kernel_rfl) ?_ | refine so_len tabOk lx rfl rfl rfl rfl (by kernel_rfl) ?_ | refine so_build' tabOk lx rfl rfl rfl rfl rfl rfl (by kernel_rfl) ?_ | refine so_index1n tabOk lx rfl rfl rfl rfl (by omega) (by kernel_rfl) ?_ | refine so_indexn tabOk lx rfl rfl rfl rfl (by omega) (by kernel_rfl) ?_ | refine so_index1 tabOk lx rfl rfl rfl rfl (by omega) (by omega) (by kernel_rfl) ?_ | refine so_pass lx rfl rfl rfl (by kernel_rfl) ?_ | refine so_arith tabOk lx rfl rfl rfl rfl (by simp only [InR]; omega) (by kernel_rfl) ?_)
  refine so_load tabOk lx rfl rfl rfl rfl (fun _ hD => bk hD) (j := 2) rfl rfl (by kernel_rfl) ?_
  rw [show cl (Value.int .i64 sp) = .int .i64 sp from rfl]
  refine so_gives lx rfl rfl rfl (by kernel_rfl) (fun _ _ => gives_rem rfl (by omega) (by decide)) ?_
  refine so_arith tabOk lx rfl rfl rfl rfl (by simp only [InR]; omega) (by kernel_rfl) ?_
  repeat (first | refine so_pure tabOk lx rfl rfl rfl rfl (by kernel_rfl) ?_ | refine so_load' tabOk lx rfl rfl rfl rfl (by repeat (first | exact List.Mem.head _ | apply List.Mem.tail)) (by rfl) (by rfl) (by kernel_rfl) ?_ | refine so_loada' tabOk lx rfl rfl rfl rfl (by repeat (first | exact List.Mem.head _ | apply List.Mem.tail)) (by rfl) (by kernel_rfl) ?_ | refine so_len tabOk lx rfl rfl rfl rfl (by kernel_rfl) ?_ | refine so_build' tabOk lx rfl rfl rfl rfl rfl rfl (by kernel_rfl) ?_ | refine so_index1n tabOk lx rfl rfl rfl rfl (by omega) (by kernel_rfl) ?_ | refine so_indexn tabOk lx rfl rfl rfl rfl (by omega) (by kernel_rfl) ?_ | refine so_index1 tabOk lx rfl rfl rfl rfl (by omega) (by omega) (by kernel_rfl) ?_ | refine so_pass lx rfl rfl rfl (by kernel_rfl) ?_ | refine so_arith tabOk lx rfl rfl rfl rfl (by simp only [InR]; omega) (by kernel_rfl) ?_)
  refine so_load tabOk lx rfl rfl rfl rfl (fun _ hD => bk hD) (j := 2) rfl rfl (by kernel_rfl) ?_
  rw [show cl (Value.int .i64 sp) = .int .i64 sp from rfl]
  refine so_gives lx rfl rfl rfl (by kernel_rfl) (fun _ _ => gives_div rfl (by omega) (by decide) (by simp only [InR]; omega)) ?_
  refine so_arith tabOk lx rfl rfl rfl rfl (by simp only [InR]; omega) (by kernel_rfl) ?_
  refine so_single (by kernel_rfl) (th_lit tabOk H8 [14, 15] (by kernel_rfl) rfl rfl rfl rfl rfl rfl rfl rfl rfl rfl rfl (fun _ => (by repeat (first | exact List.nil_sublist _ | refine List.Sublist.cons_cons _ ?_ | refine List.Sublist.cons _ ?_))) ?_)
  intro b9 W9 H9
  refine so_single (by kernel_rfl) (th_append tabOk H9 [15] (by kernel_rfl) rfl rfl rfl rfl rfl rfl rfl rfl rfl (fun _ _ => (by repeat (first | exact Upd.here | apply Upd.there))) (H9.row_sl (List.mem_cons_self ..)) (by omega) (fun _ _ => (by repeat (first | exact List.nil_sublist _ | refine List.Sublist.cons_cons _ ?_ | refine List.Sublist.cons _ ?_))) ?_)
  intro a10 c10 W10 H10
  refine so_pure tabOk lx rfl rfl rfl rfl (by kernel_rfl) ?_
  refine so_done ?_
  have H10 := H10.sub (List.sublist_cons_self ..)
  have H10 := rowB (ys := L8 ++ leL sp 2) H10 rfl rfl (by rw [leL_2]; simp [u8s]; omega)
  obtain ⟨L10, q10⟩ : ∃ L, L = L8 ++ leL sp 2 := ⟨_, rfl⟩
  have n10 : L8.length + 2 = L10.length := by rw [q10]; simp [bI_len, leL_len]
  rw [← q10] at H10
  rw [show Value.slice a10 (L8.length + 2) c10 = .slice a10 L10.length c10 by rw [n10]] at H10 ⊢
  rw [n10] at H10
  have len10 : L10.length = 11 + s.size := by omega
  repeat' (first | refine s_pure tabOk rfl rfl rfl rfl ?_ | refine Stp.imp ?_ | refine aops_nil ?_ | refine aw_reg ?_ | refine aw_seq ?_ | refine s_pass rfl rfl rfl ?_ | refine s_len tabOk rfl rfl rfl rfl ?_ | refine aw_true rfl ?_ | refine aw_false rfl ?_ | refine blk_exit_other rfl ?_ | refine s_arith tabOk rfl rfl rfl rfl (by simp only [InR]; omega) ?_ | ((first | ((fail_if_success refine s_told rfl rfl ?_); refine s_part rfl rfl rfl ?_ ?_) | refine aw_if rfl ?_ ?_) <;> intro hc <;> (first | replace hc := DecT.imp hc | simp only [decs] at hc | skip)) | refine s_index1n tabOk rfl rfl rfl rfl (by omega) ?_ | refine s_indexn tabOk rfl rfl rfl rfl (by omega) ?_ | refine s_index1 tabOk rfl rfl rfl rfl (by omega) (by omega) ?_ | refine sh_load tabOk (by assumption) rfl rfl rfl rfl (by repeat (first | exact List.Mem.head _ | apply List.Mem.tail)) (by rfl) (by rfl) ?_ | refine sh_loada tabOk (by assumption) rfl rfl rfl rfl (by repeat (first | exact List.Mem.head _ | apply List.Mem.tail)) (by rfl) ?_ | (refine sh_box (by assumption) rfl rfl rfl rfl rfl rfl ?_; intro _ _ _) | (refine sh_alloc tabOk (by assumption) rfl rfl rfl rfl rfl rfl ?_; intro _ _ _) | (refine sh_store tabOk (by assumption) rfl rfl rfl rfl rfl rfl (by repeat (first | exact Upd.here | apply Upd.there)) (by rfl) ?_; intro _ _) | (refine sh_lit tabOk (by assumption) rfl rfl rfl rfl rfl rfl rfl rfl rfl rfl rfl ?_; intro _ _ _) | refine sh_build tabOk rfl rfl rfl rfl rfl rfl ?_)
  refine s_load tabOk rfl rfl rfl rfl ((bk (by assumption)).cell (j := 3) rfl) hca ?_
  rw [show cl (Value.slice a xs.length c) = .slice a xs.length c from rfl]
  refine s_call rfl rfl rfl rfl ent78 (c_spec_l07Pack (hx.below (hG2.trans (H10.below.mono hG2.size))) (by omega) hbd (Hp.size (by assumption))) ?_
  rintro _ W11 ⟨rfl, hb11⟩
  have H11 := Hp.grow H10 hb11
  have hps : (strOfNums (packTo xs xs.length)).size = (packTo xs xs.length).length := strOfNums_size _
  repeat' (first | refine s_pure tabOk rfl rfl rfl rfl ?_ | refine Stp.imp ?_ | refine aops_nil ?_ | refine aw_reg ?_ | refine aw_seq ?_ | refine s_pass rfl rfl rfl ?_ | refine s_len tabOk rfl rfl rfl rfl ?_ | refine aw_true rfl ?_ | refine aw_false rfl ?_ | refine blk_exit_other rfl ?_ | refine s_arith tabOk rfl rfl rfl rfl (by simp only [InR]; omega) ?_ | ((first | ((fail_if_success refine s_told rfl rfl ?_); refine s_part rfl rfl rfl ?_ ?_) | refine aw_if rfl ?_ ?_) <;> intro hc <;> (first | replace hc := DecT.imp hc | simp only [decs] at hc | skip)) | refine s_index1n tabOk rfl rfl rfl rfl (by omega) ?_ | refine s_indexn tabOk rfl rfl rfl rfl (by omega) ?_ | refine s_index1 tabOk rfl rfl rfl rfl (by omega) (by omega) ?_ | refine sh_load tabOk (by assumption) rfl rfl rfl rfl (by repeat (first | exact List.Mem.head _ | apply List.Mem.tail)) (by rfl) (by rfl) ?_ | refine sh_loada tabOk (by assumption) rfl rfl rfl rfl (by repeat (first | exact List.Mem.head _ | apply List.Mem.tail)) (by rfl) ?_ | (refine sh_box (by assumption) rfl rfl rfl rfl rfl rfl ?_; intro _ _ _) | (refine sh_alloc tabOk (by assumption) rfl rfl rfl rfl rfl rfl ?_; intro _ _ _) | (refine sh_store tabOk (by assumption) rfl rfl rfl rfl rfl rfl (by repeat (first | exact Upd.here | apply Upd.there)) (by rfl) ?_; intro _ _) | (refine sh_lit tabOk (by assumption) rfl rfl rfl rfl rfl rfl rfl rfl rfl rfl rfl ?_; intro _ _ _) | refine sh_build tabOk rfl rfl rfl rfl rfl rfl ?_)
  rw [hps]
  refine s_rem rfl rfl rfl rfl (by omega) (by decide) ?_
  repeat' (first | refine s_pure tabOk rfl rfl rfl rfl ?_ | refine Stp.imp ?_ | refine aops_nil ?_ | refine aw_reg ?_ | refine aw_seq ?_ | refine s_pass rfl rfl rfl ?_ | refine s_len tabOk rfl rfl rfl rfl ?_ | refine aw_true rfl ?_ | refine aw_false rfl ?_ | refine blk_exit_other rfl ?_ | refine s_arith tabOk rfl rfl rfl rfl (by simp only [InR]; omega) ?_ | ((first | ((fail_if_success refine s_told rfl rfl ?_); refine s_part rfl rfl rfl ?_ ?_) | refine aw_if rfl ?_ ?_) <;> intro hc <;> (first | replace hc := DecT.imp hc | simp only [decs] at hc | skip)) | refine s_index1n tabOk rfl rfl rfl rfl (by omega) ?_ | refine s_indexn tabOk rfl rfl rfl rfl (by omega) ?_ | refine s_index1 tabOk rfl rfl rfl rfl (by omega) (by omega) ?_ | refine sh_load tabOk (by assumption) rfl rfl rfl rfl (by repeat (first | exact List.Mem.head _ | apply List.Mem.tail)) (by rfl) (by rfl) ?_ | refine sh_loada tabOk (by assumption) rfl rfl rfl rfl (by repeat (first | exact List.Mem.head _ | apply List.Mem.tail)) (by rfl) ?_ | (refine sh_box (by assumption) rfl rfl rfl rfl rfl rfl ?_; intro _ _ _) | (refine sh_alloc tabOk (by assumption) rfl rfl rfl rfl rfl rfl ?_; intro _ _ _) | (refine sh_store tabOk (by assumption) rfl rfl rfl rfl rfl rfl (by repeat (first | exact Upd.here | apply Upd.there)) (by rfl) ?_; intro _ _) | (refine sh_lit tabOk (by assumption) rfl rfl rfl rfl rfl rfl rfl rfl rfl rfl rfl ?_; intro _ _ _) | refine sh_build tabOk rfl rfl rfl rfl rfl rfl ?_)
  rw [hps]
  refine s_div rfl rfl rfl rfl (by omega) (by decide) (by simp only [InR]; omega) ?_
  repeat' (first | refine s_pure tabOk rfl rfl rfl rfl ?_ | refine Stp.imp ?_ | refine aops_nil ?_ | refine aw_reg ?_ | refine aw_seq ?_ | refine s_pass rfl rfl rfl ?_ | refine s_len tabOk rfl rfl rfl rfl ?_ | refine aw_true rfl ?_ | refine aw_false rfl ?_ | refine blk_exit_other rfl ?_ | refine s_arith tabOk rfl rfl rfl rfl (by simp only [InR]; omega) ?_ | ((first | ((fail_if_success refine s_told rfl rfl ?_); refine s_part rfl rfl rfl ?_ ?_) | refine aw_if rfl ?_ ?_) <;> intro hc <;> (first | replace hc := DecT.imp hc | simp only [decs] at hc | skip)) | refine s_index1n tabOk rfl rfl rfl rfl (by omega) ?_ | refine s_indexn tabOk rfl rfl rfl rfl (by omega) ?_ | refine s_index1 tabOk rfl rfl rfl rfl (by omega) (by omega) ?_ | refine sh_load tabOk (by assumption) rfl rfl rfl rfl (by repeat (first | exact List.Mem.head _ | apply List.Mem.tail)) (by rfl) (by rfl) ?_ | refine sh_loada tabOk (by assumption) rfl rfl rfl rfl (by repeat (first | exact List.Mem.head _ | apply List.Mem.tail)) (by rfl) ?_ | (refine sh_box (by assumption) rfl rfl rfl rfl rfl rfl ?_; intro _ _ _) | (refine sh_alloc tabOk (by assumption) rfl rfl rfl rfl rfl rfl ?_; intro _ _ _) | (refine sh_store tabOk (by assumption) rfl rfl rfl rfl rfl rfl (by repeat (first | exact Upd.here | apply Upd.there)) (by rfl) ?_; intro _ _) | (refine sh_lit tabOk (by assumption) rfl rfl rfl rfl rfl rfl rfl rfl rfl rfl rfl ?_; intro _ _ _) | refine sh_build tabOk rfl rfl rfl rfl rfl rfl ?_)
  rename_i b12 W12 H12
  refine sh_append tabOk H12 rfl rfl rfl rfl rfl rfl rfl rfl rfl (fun _ _ => (by repeat (first | exact Upd.here | apply Upd.there))) (H12.row_sl (List.mem_cons_self ..)) (by omega) ?_
  intro a13 c13 W13 H13
  have H13 := H13.sub (List.sublist_cons_self ..)
  have H13 := rowB (ys := L10 ++ leL ((packTo xs xs.length).length : Int) 2) H13 rfl rfl (by rw [leL_2]; simp [u8s]; omega)
  obtain ⟨L13, q13⟩ : ∃ L, L = L10 ++ leL ((packTo xs xs.length).length : Int) 2 := ⟨_, rfl⟩
  have n13 : L10.length + 2 = L13.length := by rw [q13]; simp [bI_len, leL_len]
  rw [← q13] at H13
  rw [show Value.slice a13 (L10.length + 2) c13 = .slice a13 L13.length c13 by rw [n13]] at H13 ⊢
  rw [n13] at H13
  have len13 : L13.length = 13 + s.size := by omega
  repeat' (first | refine s_pure tabOk rfl rfl rfl rfl ?_ | refine Stp.imp ?_ | refine aops_nil ?_ | refine aw_reg ?_ | refine aw_seq ?_ | refine s_pass rfl rfl rfl ?_ | refine s_len tabOk rfl rfl rfl rfl ?_ | refine aw_true rfl ?_ | refine aw_false rfl ?_ | refine blk_exit_other rfl ?_ | refine s_arith tabOk rfl rfl rfl rfl (by simp only [InR]; omega) ?_ | ((first | ((fail_if_success refine s_told rfl rfl ?_); refine s_part rfl rfl rfl ?_ ?_) | refine aw_if rfl ?_ ?_) <;> intro hc <;> (first | replace hc := DecT.imp hc | simp only [decs] at hc | skip)) | refine s_index1n tabOk rfl rfl rfl rfl (by omega) ?_ | refine s_indexn tabOk rfl rfl rfl rfl (by omega) ?_ | refine s_index1 tabOk rfl rfl rfl rfl (by omega) (by omega) ?_ | refine sh_load tabOk (by assumption) rfl rfl rfl rfl (by repeat (first | exact List.Mem.head _ | apply List.Mem.tail)) (by rfl) (by rfl) ?_ | refine sh_loada tabOk (by assumption) rfl rfl rfl rfl (by repeat (first | exact List.Mem.head _ | apply List.Mem.tail)) (by rfl) ?_ | (refine sh_box (by assumption) rfl rfl rfl rfl rfl rfl ?_; intro _ _ _) | (refine sh_alloc tabOk (by assumption) rfl rfl rfl rfl rfl rfl ?_; intro _ _ _) | (refine sh_store tabOk (by assumption) rfl rfl rfl rfl rfl rfl (by repeat (first | exact Upd.here | apply Upd.there)) (by rfl) ?_; intro _ _) | (refine sh_lit tabOk (by assumption) rfl rfl rfl rfl rfl rfl rfl rfl rfl rfl rfl ?_; intro _ _ _) | refine sh_build tabOk rfl rfl rfl rfl rfl rfl ?_)
  refine s_yields rfl rfl rfl (yields_strBytes tabOk rfl) ?_
  rintro _ W14 ⟨a14, c14, rfl, sl14, hb14⟩
  have H14 := Hp.grow H13 hb14
  rw [bI_nums (packTo_rng _ _)] at sl14 ⊢
  refine sh_append tabOk H14 rfl rfl rfl rfl rfl rfl rfl rfl rfl (fun _ _ => (by repeat (first | exact Upd.here | apply Upd.there))) sl14 (by omega) ?_
  intro a15 c15 W15 H15
  have H15 := rowB (ys := L13 ++ packTo xs xs.length) H15 rfl rfl (by simp [u8s])
  obtain ⟨L15, q15⟩ : ∃ L, L = L13 ++ packTo xs xs.length := ⟨_, rfl⟩
  have n15 : L13.length + (packTo xs xs.length).length = L15.length := by rw [q15]; simp [bI_len, leL_len]
  rw [← q15] at H15
  rw [show Value.slice a15 (L13.length + (packTo xs xs.length).length) c15 = .slice a15 L15.length c15 by rw [n15]] at H15 ⊢
  rw [n15] at H15
  have hS : L15 = (storeL s st sp xs).flatten := by
    rw [q15, q13, q10, q8, q6, ← hq4]
    simp [storeL]
  subst hS
  have hSl := storeL_len s st sp xs
  repeat' (first | refine s_pure tabOk rfl rfl rfl rfl ?_ | refine Stp.imp ?_ | refine aops_nil ?_ | refine aw_reg ?_ | refine aw_seq ?_ | refine s_pass rfl rfl rfl ?_ | refine s_len tabOk rfl rfl rfl rfl ?_ | refine aw_true rfl ?_ | refine aw_false rfl ?_ | refine blk_exit_other rfl ?_ | refine s_arith tabOk rfl rfl rfl rfl (by simp only [InR]; omega) ?_ | ((first | ((fail_if_success refine s_told rfl rfl ?_); refine s_part rfl rfl rfl ?_ ?_) | refine aw_if rfl ?_ ?_) <;> intro hc <;> (first | replace hc := DecT.imp hc | simp only [decs] at hc | skip)) | refine s_index1n tabOk rfl rfl rfl rfl (by omega) ?_ | refine s_indexn tabOk rfl rfl rfl rfl (by omega) ?_ | refine s_index1 tabOk rfl rfl rfl rfl (by omega) (by omega) ?_ | refine sh_load tabOk (by assumption) rfl rfl rfl rfl (by repeat (first | exact List.Mem.head _ | apply List.Mem.tail)) (by rfl) (by rfl) ?_ | refine sh_loada tabOk (by assumption) rfl rfl rfl rfl (by repeat (first | exact List.Mem.head _ | apply List.Mem.tail)) (by rfl) ?_ | (refine sh_box (by assumption) rfl rfl rfl rfl rfl rfl ?_; intro _ _ _) | (refine sh_alloc tabOk (by assumption) rfl rfl rfl rfl rfl rfl ?_; intro _ _ _) | (refine sh_store tabOk (by assumption) rfl rfl rfl rfl rfl rfl (by repeat (first | exact Upd.here | apply Upd.there)) (by rfl) ?_; intro _ _) | (refine sh_lit tabOk (by assumption) rfl rfl rfl rfl rfl rfl rfl rfl rfl rfl rfl ?_; intro _ _ _) | refine sh_build tabOk rfl rfl rfl rfl rfl rfl ?_)
  refine s_bytesString tabOk rfl rfl rfl rfl (Hp.ownB H15 (List.mem_cons_self ..)) ?_
  refine s_call rfl rfl rfl rfl ent86 (c_spec_l01Check (by decide) (by rw [strOfNums_size]; omega)) ?_
  rintro _ _ ⟨rfl, rfl⟩
  have hck := chk_range (n := 0) (s := strOfNums (storeL s st sp xs).flatten) (by decide) (strOfNums (storeL s st sp xs).flatten).size
  have hSS : storeS s st sp xs = strOfNums ((storeL s st sp xs).flatten ++ leL (chk 0 (strOfNums (storeL s st sp xs).flatten) (strOfNums (storeL s st sp xs).flatten).size) 2) := rfl
  generalize chk 0 (strOfNums (storeL s st sp xs).flatten) (strOfNums (storeL s st sp xs).flatten).size = ck at *
  generalize (storeL s st sp xs).flatten = LS at *
  repeat' (first | refine s_pure tabOk rfl rfl rfl rfl ?_ | refine Stp.imp ?_ | refine aops_nil ?_ | refine aw_reg ?_ | refine aw_seq ?_ | refine s_pass rfl rfl rfl ?_ | refine s_len tabOk rfl rfl rfl rfl ?_ | refine aw_true rfl ?_ | refine aw_false rfl ?_ | refine blk_exit_other rfl ?_ | refine s_arith tabOk rfl rfl rfl rfl (by simp only [InR]; omega) ?_ | ((first | ((fail_if_success refine s_told rfl rfl ?_); refine s_part rfl rfl rfl ?_ ?_) | refine aw_if rfl ?_ ?_) <;> intro hc <;> (first | replace hc := DecT.imp hc | simp only [decs] at hc | skip)) | refine s_index1n tabOk rfl rfl rfl rfl (by omega) ?_ | refine s_indexn tabOk rfl rfl rfl rfl (by omega) ?_ | refine s_index1 tabOk rfl rfl rfl rfl (by omega) (by omega) ?_ | refine sh_load tabOk (by assumption) rfl rfl rfl rfl (by repeat (first | exact List.Mem.head _ | apply List.Mem.tail)) (by rfl) (by rfl) ?_ | refine sh_loada tabOk (by assumption) rfl rfl rfl rfl (by repeat (first | exact List.Mem.head _ | apply List.Mem.tail)) (by rfl) ?_ | (refine sh_box (by assumption) rfl rfl rfl rfl rfl rfl ?_; intro _ _ _) | (refine sh_alloc tabOk (by assumption) rfl rfl rfl rfl rfl rfl ?_; intro _ _ _) | (refine sh_store tabOk (by assumption) rfl rfl rfl rfl rfl rfl (by repeat (first | exact Upd.here | apply Upd.there)) (by rfl) ?_; intro _ _) | (refine sh_lit tabOk (by assumption) rfl rfl rfl rfl rfl rfl rfl rfl rfl rfl rfl ?_; intro _ _ _) | refine sh_build tabOk rfl rfl rfl rfl rfl rfl ?_)
  refine s_rem rfl rfl rfl rfl (by omega) (by decide) ?_
  repeat' (first | refine s_pure tabOk rfl rfl rfl rfl ?_ | refine Stp.imp ?_ | refine aops_nil ?_ | refine aw_reg ?_ | refine aw_seq ?_ | refine s_pass rfl rfl rfl ?_ | refine s_len tabOk rfl rfl rfl rfl ?_ | refine aw_true rfl ?_ | refine aw_false rfl ?_ | refine blk_exit_other rfl ?_ | refine s_arith tabOk rfl rfl rfl rfl (by simp only [InR]; omega) ?_ | ((first | ((fail_if_success refine s_told rfl rfl ?_); refine s_part rfl rfl rfl ?_ ?_) | refine aw_if rfl ?_ ?_) <;> intro hc <;> (first | replace hc := DecT.imp hc | simp only [decs] at hc | skip)) | refine s_index1n tabOk rfl rfl rfl rfl (by omega) ?_ | refine s_indexn tabOk rfl rfl rfl rfl (by omega) ?_ | refine s_index1 tabOk rfl rfl rfl rfl (by omega) (by omega) ?_ | refine sh_load tabOk (by assumption) rfl rfl rfl rfl (by repeat (first | exact List.Mem.head _ | apply List.Mem.tail)) (by rfl) (by rfl) ?_ | refine sh_loada tabOk (by assumption) rfl rfl rfl rfl (by repeat (first | exact List.Mem.head _ | apply List.Mem.tail)) (by rfl) ?_ | (refine sh_box (by assumption) rfl rfl rfl rfl rfl rfl ?_; intro _ _ _) | (refine sh_alloc tabOk (by assumption) rfl rfl rfl rfl rfl rfl ?_; intro _ _ _) | (refine sh_store tabOk (by assumption) rfl rfl rfl rfl rfl rfl (by repeat (first | exact Upd.here | apply Upd.there)) (by rfl) ?_; intro _ _) | (refine sh_lit tabOk (by assumption) rfl rfl rfl rfl rfl rfl rfl rfl rfl rfl rfl ?_; intro _ _ _) | refine sh_build tabOk rfl rfl rfl rfl rfl rfl ?_)
  refine s_div rfl rfl rfl rfl (by omega) (by decide) (by simp only [InR]; omega) ?_
  repeat' (first | refine s_pure tabOk rfl rfl rfl rfl ?_ | refine Stp.imp ?_ | refine aops_nil ?_ | refine aw_reg ?_ | refine aw_seq ?_ | refine s_pass rfl rfl rfl ?_ | refine s_len tabOk rfl rfl rfl rfl ?_ | refine aw_true rfl ?_ | refine aw_false rfl ?_ | refine blk_exit_other rfl ?_ | refine s_arith tabOk rfl rfl rfl rfl (by simp only [InR]; omega) ?_ | ((first | ((fail_if_success refine s_told rfl rfl ?_); refine s_part rfl rfl rfl ?_ ?_) | refine aw_if rfl ?_ ?_) <;> intro hc <;> (first | replace hc := DecT.imp hc | simp only [decs] at hc | skip)) | refine s_index1n tabOk rfl rfl rfl rfl (by omega) ?_ | refine s_indexn tabOk rfl rfl rfl rfl (by omega) ?_ | refine s_index1 tabOk rfl rfl rfl rfl (by omega) (by omega) ?_ | refine sh_load tabOk (by assumption) rfl rfl rfl rfl (by repeat (first | exact List.Mem.head _ | apply List.Mem.tail)) (by rfl) (by rfl) ?_ | refine sh_loada tabOk (by assumption) rfl rfl rfl rfl (by repeat (first | exact List.Mem.head _ | apply List.Mem.tail)) (by rfl) ?_ | (refine sh_box (by assumption) rfl rfl rfl rfl rfl rfl ?_; intro _ _ _) | (refine sh_alloc tabOk (by assumption) rfl rfl rfl rfl rfl rfl ?_; intro _ _ _) | (refine sh_store tabOk (by assumption) rfl rfl rfl rfl rfl rfl (by repeat (first | exact Upd.here | apply Upd.there)) (by rfl) ?_; intro _ _) | (refine sh_lit tabOk (by assumption) rfl rfl rfl rfl rfl rfl rfl rfl rfl rfl rfl ?_; intro _ _ _) | refine sh_build tabOk rfl rfl rfl rfl rfl rfl ?_)
  rename_i b16 W16 H16
  refine sh_append tabOk H16 rfl rfl rfl rfl rfl rfl rfl rfl rfl (fun _ _ => (by repeat (first | exact Upd.here | apply Upd.there))) (H16.row_sl (List.mem_cons_self ..)) (by omega) ?_
  intro a17 c17 W17 H17
  have H17 := H17.sub (List.sublist_cons_self ..)
  have H17 := rowB (ys := LS ++ leL ck 2) H17 rfl rfl (by rw [leL_2]; simp [u8s]; omega)
  obtain ⟨L17, q17⟩ : ∃ L, L = LS ++ leL ck 2 := ⟨_, rfl⟩
  have n17 : LS.length + 2 = L17.length := by rw [q17]; simp [bI_len, leL_len]
  rw [← q17] at H17
  rw [show Value.slice a17 (LS.length + 2) c17 = .slice a17 L17.length c17 by rw [n17]] at H17 ⊢
  rw [n17] at H17
  refine s_bytesString tabOk rfl rfl rfl rfl (Hp.ownB H17 (List.mem_cons_self ..)) ?_
  repeat' (first | refine s_pure tabOk rfl rfl rfl rfl ?_ | refine Stp.imp ?_ | refine aops_nil ?_ | refine aw_reg ?_ | refine aw_seq ?_ | refine s_pass rfl rfl rfl ?_ | refine s_len tabOk rfl rfl rfl rfl ?_ | refine aw_true rfl ?_ | refine aw_false rfl ?_ | refine blk_exit_other rfl ?_ | refine s_arith tabOk rfl rfl rfl rfl (by simp only [InR]; omega) ?_ | ((first | ((fail_if_success refine s_told rfl rfl ?_); refine s_part rfl rfl rfl ?_ ?_) | refine aw_if rfl ?_ ?_) <;> intro hc <;> (first | replace hc := DecT.imp hc | simp only [decs] at hc | skip)) | refine s_index1n tabOk rfl rfl rfl rfl (by omega) ?_ | refine s_indexn tabOk rfl rfl rfl rfl (by omega) ?_ | refine s_index1 tabOk rfl rfl rfl rfl (by omega) (by omega) ?_ | refine sh_load tabOk (by assumption) rfl rfl rfl rfl (by repeat (first | exact List.Mem.head _ | apply List.Mem.tail)) (by rfl) (by rfl) ?_ | refine sh_loada tabOk (by assumption) rfl rfl rfl rfl (by repeat (first | exact List.Mem.head _ | apply List.Mem.tail)) (by rfl) ?_ | (refine sh_box (by assumption) rfl rfl rfl rfl rfl rfl ?_; intro _ _ _) | (refine sh_alloc tabOk (by assumption) rfl rfl rfl rfl rfl rfl ?_; intro _ _ _) | (refine sh_store tabOk (by assumption) rfl rfl rfl rfl rfl rfl (by repeat (first | exact Upd.here | apply Upd.there)) (by rfl) ?_; intro _ _) | (refine sh_lit tabOk (by assumption) rfl rfl rfl rfl rfl rfl rfl rfl rfl rfl rfl ?_; intro _ _ _) | refine sh_build tabOk rfl rfl rfl rfl rfl rfl ?_)
  refine retK_ret tabOk (congrArg Array.toList Try.results59) (by repeat (first | exact rv_nil | apply rv_tmp rfl rfl | apply rv_cellH (by assumption) rfl rfl rfl (by repeat (first | exact List.Mem.head _ | apply List.Mem.tail)) rfl)) ?_
  exact ⟨by rw [hSS, q17]; rfl, hG2.trans (H17.below.mono hG2.size)⟩
@[irreducible] def stS (s : ByteArray) (st sp : Int) (xs : List Nat) : ByteArray := if recOk s st sp xs.length then storeS s st sp xs else ⟨#[]⟩
theorem stS_yes {s : ByteArray} {st sp : Int} {xs : List Nat} (h : recOk s st sp xs.length = true) : stS s st sp xs = storeS s st sp xs := by unfold stS; rw [h]; rfl
theorem stS_no {s : ByteArray} {st sp : Int} {xs : List Nat} (h : recOk s st sp xs.length = false) : stS s st sp xs = ⟨#[]⟩ := by unfold stS; rw [h]; rfl
theorem recOk_name {s : ByteArray} {st sp : Int} {n : Nat} (h : recOk s st sp n = true) : s.size ≤ 255 := by
  unfold recOk nameOk at h
  simp at h
  omega
theorem hc_impl_StoreRecord {v : Value} {s : ByteArray} {st sp : Int} {xs : List Nat} (hv : RecA W v s st sp xs) (hs : s.size ≤ 1048576) (hbd : Bd xs) (hB : B ≤ W.heap.size) :
    ACalls Try.prog B 29 [v] W (fun r W' => r = .tuple #[.string (stS s st sp xs), .bool (recOk s st sp xs.length)] ∧ Below W.heap.size W W') := by
  have hv0 := hv
  obtain ⟨a, c, rfl, hx⟩ := hv
  have H0 : Hp B W W [] := Hp.new hB
  refine acalls_of Try.func29 rfl Try.ntmps29 (Nat.le_of_ble_eq_true rfl) ?_
  repeat' (first | refine s_pure tabOk rfl rfl rfl rfl ?_ | refine Stp.imp ?_ | refine aops_nil ?_ | refine aw_reg ?_ | refine aw_seq ?_ | refine s_pass rfl rfl rfl ?_ | refine s_len tabOk rfl rfl rfl rfl ?_ | refine aw_true rfl ?_ | refine aw_false rfl ?_ | refine blk_exit_other rfl ?_ | refine s_arith tabOk rfl rfl rfl rfl (by simp only [InR]; omega) ?_ | ((first | ((fail_if_success refine s_told rfl rfl ?_); refine s_part rfl rfl rfl ?_ ?_) | refine aw_if rfl ?_ ?_) <;> intro hc <;> (first | replace hc := DecT.imp hc | simp only [decs] at hc | skip)) | refine s_index1n tabOk rfl rfl rfl rfl (by omega) ?_ | refine s_indexn tabOk rfl rfl rfl rfl (by omega) ?_ | refine s_index1 tabOk rfl rfl rfl rfl (by omega) (by omega) ?_ | refine sh_load tabOk (by assumption) rfl rfl rfl rfl (by repeat (first | exact List.Mem.head _ | apply List.Mem.tail)) (by rfl) (by rfl) ?_ | refine sh_loada tabOk (by assumption) rfl rfl rfl rfl (by repeat (first | exact List.Mem.head _ | apply List.Mem.tail)) (by rfl) ?_ | (refine sh_box (by assumption) rfl rfl rfl rfl rfl rfl ?_; intro _ _ _) | (refine sh_alloc tabOk (by assumption) rfl rfl rfl rfl rfl rfl ?_; intro _ _ _) | (refine sh_store tabOk (by assumption) rfl rfl rfl rfl rfl rfl (by repeat (first | exact Upd.here | apply Upd.there)) (by rfl) ?_; intro _ _) | (refine sh_lit tabOk (by assumption) rfl rfl rfl rfl rfl rfl rfl rfl rfl rfl rfl ?_; intro _ _ _) | refine sh_build tabOk rfl rfl rfl rfl rfl rfl ?_)
  refine s_call rfl rfl rfl rfl ent41 (c_impl_ValidRecord (RecA.below hv0 (Hp.below (by assumption))) hs) ?_
  rintro _ W2 ⟨rfl, g2⟩
  have H2 := Hp.grow (by assumption) g2
  cases hk : recOk s st sp xs.length
  · repeat' (first | refine s_pure tabOk rfl rfl rfl rfl ?_ | refine Stp.imp ?_ | refine aops_nil ?_ | refine aw_reg ?_ | refine aw_seq ?_ | refine s_pass rfl rfl rfl ?_ | refine s_len tabOk rfl rfl rfl rfl ?_ | refine aw_true rfl ?_ | refine aw_false rfl ?_ | refine blk_exit_other rfl ?_ | refine s_arith tabOk rfl rfl rfl rfl (by simp only [InR]; omega) ?_ | ((first | ((fail_if_success refine s_told rfl rfl ?_); refine s_part rfl rfl rfl ?_ ?_) | refine aw_if rfl ?_ ?_) <;> intro hc <;> (first | replace hc := DecT.imp hc | simp only [decs] at hc | skip)) | refine s_index1n tabOk rfl rfl rfl rfl (by omega) ?_ | refine s_indexn tabOk rfl rfl rfl rfl (by omega) ?_ | refine s_index1 tabOk rfl rfl rfl rfl (by omega) (by omega) ?_ | refine sh_load tabOk (by assumption) rfl rfl rfl rfl (by repeat (first | exact List.Mem.head _ | apply List.Mem.tail)) (by rfl) (by rfl) ?_ | refine sh_loada tabOk (by assumption) rfl rfl rfl rfl (by repeat (first | exact List.Mem.head _ | apply List.Mem.tail)) (by rfl) ?_ | (refine sh_box (by assumption) rfl rfl rfl rfl rfl rfl ?_; intro _ _ _) | (refine sh_alloc tabOk (by assumption) rfl rfl rfl rfl rfl rfl ?_; intro _ _ _) | (refine sh_store tabOk (by assumption) rfl rfl rfl rfl rfl rfl (by repeat (first | exact Upd.here | apply Upd.there)) (by rfl) ?_; intro _ _) | (refine sh_lit tabOk (by assumption) rfl rfl rfl rfl rfl rfl rfl rfl rfl rfl rfl ?_; intro _ _ _) | refine sh_build tabOk rfl rfl rfl rfl rfl rfl ?_)
    refine retK_ret tabOk (congrArg Array.toList Try.results29) (by repeat (first | exact rv_nil | apply rv_tmp rfl rfl | apply rv_cellH (by assumption) rfl rfl rfl (by repeat (first | exact List.Mem.head _ | apply List.Mem.tail)) rfl)) ?_
    rw [stS_no hk]
    exact ⟨rfl, Hp.below (by assumption)⟩
  · have hrg := recOk_range hk
    have hnm := recOk_name hk
    repeat' (first | refine s_pure tabOk rfl rfl rfl rfl ?_ | refine Stp.imp ?_ | refine aops_nil ?_ | refine aw_reg ?_ | refine aw_seq ?_ | refine s_pass rfl rfl rfl ?_ | refine s_len tabOk rfl rfl rfl rfl ?_ | refine aw_true rfl ?_ | refine aw_false rfl ?_ | refine blk_exit_other rfl ?_ | refine s_arith tabOk rfl rfl rfl rfl (by simp only [InR]; omega) ?_ | ((first | ((fail_if_success refine s_told rfl rfl ?_); refine s_part rfl rfl rfl ?_ ?_) | refine aw_if rfl ?_ ?_) <;> intro hc <;> (first | replace hc := DecT.imp hc | simp only [decs] at hc | skip)) | refine s_index1n tabOk rfl rfl rfl rfl (by omega) ?_ | refine s_indexn tabOk rfl rfl rfl rfl (by omega) ?_ | refine s_index1 tabOk rfl rfl rfl rfl (by omega) (by omega) ?_ | refine sh_load tabOk (by assumption) rfl rfl rfl rfl (by repeat (first | exact List.Mem.head _ | apply List.Mem.tail)) (by rfl) (by rfl) ?_ | refine sh_loada tabOk (by assumption) rfl rfl rfl rfl (by repeat (first | exact List.Mem.head _ | apply List.Mem.tail)) (by rfl) ?_ | (refine sh_box (by assumption) rfl rfl rfl rfl rfl rfl ?_; intro _ _ _) | (refine sh_alloc tabOk (by assumption) rfl rfl rfl rfl rfl rfl ?_; intro _ _ _) | (refine sh_store tabOk (by assumption) rfl rfl rfl rfl rfl rfl (by repeat (first | exact Upd.here | apply Upd.there)) (by rfl) ?_; intro _ _) | (refine sh_lit tabOk (by assumption) rfl rfl rfl rfl rfl rfl rfl rfl rfl rfl rfl ?_; intro _ _ _) | refine sh_build tabOk rfl rfl rfl rfl rfl rfl ?_)
    refine s_call rfl rfl rfl rfl ent60 (c_impl_storeRecord (RecA.below hv0 (Hp.below (by assumption))) hnm (by omega) hbd (by omega) (by omega) (Hp.size (by assumption))) ?_
    rintro _ W3 ⟨rfl, g3⟩
    have H3 := Hp.grow (by assumption) g3
    repeat' (first | refine s_pure tabOk rfl rfl rfl rfl ?_ | refine Stp.imp ?_ | refine aops_nil ?_ | refine aw_reg ?_ | refine aw_seq ?_ | refine s_pass rfl rfl rfl ?_ | refine s_len tabOk rfl rfl rfl rfl ?_ | refine aw_true rfl ?_ | refine aw_false rfl ?_ | refine blk_exit_other rfl ?_ | refine s_arith tabOk rfl rfl rfl rfl (by simp only [InR]; omega) ?_ | ((first | ((fail_if_success refine s_told rfl rfl ?_); refine s_part rfl rfl rfl ?_ ?_) | refine aw_if rfl ?_ ?_) <;> intro hc <;> (first | replace hc := DecT.imp hc | simp only [decs] at hc | skip)) | refine s_index1n tabOk rfl rfl rfl rfl (by omega) ?_ | refine s_indexn tabOk rfl rfl rfl rfl (by omega) ?_ | refine s_index1 tabOk rfl rfl rfl rfl (by omega) (by omega) ?_ | refine sh_load tabOk (by assumption) rfl rfl rfl rfl (by repeat (first | exact List.Mem.head _ | apply List.Mem.tail)) (by rfl) (by rfl) ?_ | refine sh_loada tabOk (by assumption) rfl rfl rfl rfl (by repeat (first | exact List.Mem.head _ | apply List.Mem.tail)) (by rfl) ?_ | (refine sh_box (by assumption) rfl rfl rfl rfl rfl rfl ?_; intro _ _ _) | (refine sh_alloc tabOk (by assumption) rfl rfl rfl rfl rfl rfl ?_; intro _ _ _) | (refine sh_store tabOk (by assumption) rfl rfl rfl rfl rfl rfl (by repeat (first | exact Upd.here | apply Upd.there)) (by rfl) ?_; intro _ _) | (refine sh_lit tabOk (by assumption) rfl rfl rfl rfl rfl rfl rfl rfl rfl rfl rfl ?_; intro _ _ _) | refine sh_build tabOk rfl rfl rfl rfl rfl rfl ?_)
    refine retK_ret tabOk (congrArg Array.toList Try.results29) (by repeat (first | exact rv_nil | apply rv_tmp rfl rfl | apply rv_cellH (by assumption) rfl rfl rfl (by repeat (first | exact List.Mem.head _ | apply List.Mem.tail)) rfl)) ?_
    rw [stS_yes hk]
    exact ⟨rfl, Hp.below (by assumption)⟩
theorem hc_spec_StoreRecord {v : Value} {s : ByteArray} {st sp : Int} {xs : List Nat} (hv : RecA W v s st sp xs) (hs : s.size ≤ 1048576) (hbd : Bd xs) (hB : B ≤ W.heap.size) :
    ACalls Try.prog B 28 [v] W (fun r W' => r = .tuple #[.string (stS s st sp xs), .bool (recOk s st sp xs.length)] ∧ Below W.heap.size W W') := by
  have hv0 := hv
  obtain ⟨a, c, rfl, hx⟩ := hv
  have H0 : Hp B W W [] := Hp.new hB
  refine acalls_of Try.func28 rfl Try.ntmps28 (Nat.le_of_ble_eq_true rfl) ?_
  repeat' (first | refine s_pure tabOk rfl rfl rfl rfl ?_ | refine Stp.imp ?_ | refine aops_nil ?_ | refine aw_reg ?_ | refine aw_seq ?_ | refine s_pass rfl rfl rfl ?_ | refine s_len tabOk rfl rfl rfl rfl ?_ | refine aw_true rfl ?_ | refine aw_false rfl ?_ | refine blk_exit_other rfl ?_ | refine s_arith tabOk rfl rfl rfl rfl (by simp only [InR]; omega) ?_ | ((first | ((fail_if_success refine s_told rfl rfl ?_); refine s_part rfl rfl rfl ?_ ?_) | refine aw_if rfl ?_ ?_) <;> intro hc <;> (first | replace hc := DecT.imp hc | simp only [decs] at hc | skip)) | refine s_index1n tabOk rfl rfl rfl rfl (by omega) ?_ | refine s_indexn tabOk rfl rfl rfl rfl (by omega) ?_ | refine s_index1 tabOk rfl rfl rfl rfl (by omega) (by omega) ?_ | refine sh_load tabOk (by assumption) rfl rfl rfl rfl (by repeat (first | exact List.Mem.head _ | apply List.Mem.tail)) (by rfl) (by rfl) ?_ | refine sh_loada tabOk (by assumption) rfl rfl rfl rfl (by repeat (first | exact List.Mem.head _ | apply List.Mem.tail)) (by rfl) ?_ | (refine sh_box (by assumption) rfl rfl rfl rfl rfl rfl ?_; intro _ _ _) | (refine sh_alloc tabOk (by assumption) rfl rfl rfl rfl rfl rfl ?_; intro _ _ _) | (refine sh_store tabOk (by assumption) rfl rfl rfl rfl rfl rfl (by repeat (first | exact Upd.here | apply Upd.there)) (by rfl) ?_; intro _ _) | (refine sh_lit tabOk (by assumption) rfl rfl rfl rfl rfl rfl rfl rfl rfl rfl rfl ?_; intro _ _ _) | refine sh_build tabOk rfl rfl rfl rfl rfl rfl ?_)
  rename_i b2 X2 G2
  refine s_call rfl rfl rfl rfl ent55 (c_spec_l07Record (Hp.blk G2 (cs := [.string s, .int .i64 st, .int .i64 sp, .slice a xs.length c]) (by repeat (first | exact List.Mem.head _ | apply List.Mem.tail))) hs) ?_
  rintro _ _ ⟨rfl, rfl⟩
  cases hk : recOk s st sp xs.length
  · repeat' (first | refine s_pure tabOk rfl rfl rfl rfl ?_ | refine Stp.imp ?_ | refine aops_nil ?_ | refine aw_reg ?_ | refine aw_seq ?_ | refine s_pass rfl rfl rfl ?_ | refine s_len tabOk rfl rfl rfl rfl ?_ | refine aw_true rfl ?_ | refine aw_false rfl ?_ | refine blk_exit_other rfl ?_ | refine s_arith tabOk rfl rfl rfl rfl (by simp only [InR]; omega) ?_ | ((first | ((fail_if_success refine s_told rfl rfl ?_); refine s_part rfl rfl rfl ?_ ?_) | refine aw_if rfl ?_ ?_) <;> intro hc <;> (first | replace hc := DecT.imp hc | simp only [decs] at hc | skip)) | refine s_index1n tabOk rfl rfl rfl rfl (by omega) ?_ | refine s_indexn tabOk rfl rfl rfl rfl (by omega) ?_ | refine s_index1 tabOk rfl rfl rfl rfl (by omega) (by omega) ?_ | refine sh_load tabOk (by assumption) rfl rfl rfl rfl (by repeat (first | exact List.Mem.head _ | apply List.Mem.tail)) (by rfl) (by rfl) ?_ | refine sh_loada tabOk (by assumption) rfl rfl rfl rfl (by repeat (first | exact List.Mem.head _ | apply List.Mem.tail)) (by rfl) ?_ | (refine sh_box (by assumption) rfl rfl rfl rfl rfl rfl ?_; intro _ _ _) | (refine sh_alloc tabOk (by assumption) rfl rfl rfl rfl rfl rfl ?_; intro _ _ _) | (refine sh_store tabOk (by assumption) rfl rfl rfl rfl rfl rfl (by repeat (first | exact Upd.here | apply Upd.there)) (by rfl) ?_; intro _ _) | (refine sh_lit tabOk (by assumption) rfl rfl rfl rfl rfl rfl rfl rfl rfl rfl rfl ?_; intro _ _ _) | refine sh_build tabOk rfl rfl rfl rfl rfl rfl ?_)
    refine retK_ret tabOk (congrArg Array.toList Try.results28) (by repeat (first | exact rv_nil | apply rv_tmp rfl rfl | apply rv_cellH (by assumption) rfl rfl rfl (by repeat (first | exact List.Mem.head _ | apply List.Mem.tail)) rfl)) ?_
    rw [stS_no hk]
    exact ⟨rfl, Hp.below (by assumption)⟩
  · have hrg := recOk_range hk
    have hnm := recOk_name hk
    repeat' (first | refine s_pure tabOk rfl rfl rfl rfl ?_ | refine Stp.imp ?_ | refine aops_nil ?_ | refine aw_reg ?_ | refine aw_seq ?_ | refine s_pass rfl rfl rfl ?_ | refine s_len tabOk rfl rfl rfl rfl ?_ | refine aw_true rfl ?_ | refine aw_false rfl ?_ | refine blk_exit_other rfl ?_ | refine s_arith tabOk rfl rfl rfl rfl (by simp only [InR]; omega) ?_ | ((first | ((fail_if_success refine s_told rfl rfl ?_); refine s_part rfl rfl rfl ?_ ?_) | refine aw_if rfl ?_ ?_) <;> intro hc <;> (first | replace hc := DecT.imp hc | simp only [decs] at hc | skip)) | refine s_index1n tabOk rfl rfl rfl rfl (by omega) ?_ | refine s_indexn tabOk rfl rfl rfl rfl (by omega) ?_ | refine s_index1 tabOk rfl rfl rfl rfl (by omega) (by omega) ?_ | refine sh_load tabOk (by assumption) rfl rfl rfl rfl (by repeat (first | exact List.Mem.head _ | apply List.Mem.tail)) (by rfl) (by rfl) ?_ | refine sh_loada tabOk (by assumption) rfl rfl rfl rfl (by repeat (first | exact List.Mem.head _ | apply List.Mem.tail)) (by rfl) ?_ | (refine sh_box (by assumption) rfl rfl rfl rfl rfl rfl ?_; intro _ _ _) | (refine sh_alloc tabOk (by assumption) rfl rfl rfl rfl rfl rfl ?_; intro _ _ _) | (refine sh_store tabOk (by assumption) rfl rfl rfl rfl rfl rfl (by repeat (first | exact Upd.here | apply Upd.there)) (by rfl) ?_; intro _ _) | (refine sh_lit tabOk (by assumption) rfl rfl rfl rfl rfl rfl rfl rfl rfl rfl rfl ?_; intro _ _ _) | refine sh_build tabOk rfl rfl rfl rfl rfl rfl ?_)
    refine s_call rfl rfl rfl rfl ent59 (c_spec_l07Store (Hp.blk G2 (cs := [.string s, .int .i64 st, .int .i64 sp, .slice a xs.length c]) (by repeat (first | exact List.Mem.head _ | apply List.Mem.tail))) (Hp.slFA G2 hx) rfl hnm (by omega) hbd (by omega) (by omega) (Hp.size (by assumption))) ?_
    rintro _ W3 ⟨rfl, g3⟩
    have H3 := Hp.grow G2 g3
    repeat' (first | refine s_pure tabOk rfl rfl rfl rfl ?_ | refine Stp.imp ?_ | refine aops_nil ?_ | refine aw_reg ?_ | refine aw_seq ?_ | refine s_pass rfl rfl rfl ?_ | refine s_len tabOk rfl rfl rfl rfl ?_ | refine aw_true rfl ?_ | refine aw_false rfl ?_ | refine blk_exit_other rfl ?_ | refine s_arith tabOk rfl rfl rfl rfl (by simp only [InR]; omega) ?_ | ((first | ((fail_if_success refine s_told rfl rfl ?_); refine s_part rfl rfl rfl ?_ ?_) | refine aw_if rfl ?_ ?_) <;> intro hc <;> (first | replace hc := DecT.imp hc | simp only [decs] at hc | skip)) | refine s_index1n tabOk rfl rfl rfl rfl (by omega) ?_ | refine s_indexn tabOk rfl rfl rfl rfl (by omega) ?_ | refine s_index1 tabOk rfl rfl rfl rfl (by omega) (by omega) ?_ | refine sh_load tabOk (by assumption) rfl rfl rfl rfl (by repeat (first | exact List.Mem.head _ | apply List.Mem.tail)) (by rfl) (by rfl) ?_ | refine sh_loada tabOk (by assumption) rfl rfl rfl rfl (by repeat (first | exact List.Mem.head _ | apply List.Mem.tail)) (by rfl) ?_ | (refine sh_box (by assumption) rfl rfl rfl rfl rfl rfl ?_; intro _ _ _) | (refine sh_alloc tabOk (by assumption) rfl rfl rfl rfl rfl rfl ?_; intro _ _ _) | (refine sh_store tabOk (by assumption) rfl rfl rfl rfl rfl rfl (by repeat (first | exact Upd.here | apply Upd.there)) (by rfl) ?_; intro _ _) | (refine sh_lit tabOk (by assumption) rfl rfl rfl rfl rfl rfl rfl rfl rfl rfl rfl ?_; intro _ _ _) | refine sh_build tabOk rfl rfl rfl rfl rfl rfl ?_)
    refine retK_ret tabOk (congrArg Array.toList Try.results28) (by repeat (first | exact rv_nil | apply rv_tmp rfl rfl | apply rv_cellH (by assumption) rfl rfl rfl (by repeat (first | exact List.Mem.head _ | apply List.Mem.tail)) rfl)) ?_
    rw [stS_yes hk]
    exact ⟨rfl, Hp.below (by assumption)⟩
end
end Go.Proofs.Ytkbcbbcacabelaa
