/- A record's bytes. -/
import Derived.Test.YtkbcbbcacabelaaSf
namespace Go.Proofs.Ytkbcbbcacabelaa
set_option linter.unusedSimpArgs false
set_option linter.unusedVariables false
open Go Cn Go.RowKit
section
variable {P : Program} {N B : Nat} {ops : Array Oper} {D : World → Prop} {S : World → World → Prop} {Q : Nat → Value → World → Prop} {E0 E : Env} {W : World} {T : Tab}
variable {i d : Nat} {op : Op} {ty : TypeId} {pos : String} {aft : Array Edge} {g : Option (Nat × Bool)}
/-- one turn, its needs at hand -/
def Step1 (P : Program) (N B : Nat) (ops : Array Oper) (D : World → Prop) (S : World → World → Prop) (Q : Nat → Value → World → Prop) (i : Nat) (o : Oper) (W : World) (E : Env) : Prop :=
  ∃ R : Value → World → Prop, (∀ a w, EnvR E N a → cw B w = W → B ≤ w.heap.size → SRun P B ops o a w R) ∧ ∀ v W', R v W' → D W' ∧ S W W' ∧ Q i v W'
theorem any_op (ho : getL ops.toList i = some ⟨some d, op, ty, pos, aft, g⟩) (hd : Nat.ble (d + 1) N = true) (js : List (Nat × Nat)) (hj : depsB ops i js = true)
    (h : ∀ W, D W → WithD Q W js E0 (Step1 P N B ops D S Q i ⟨some d, op, ty, pos, aft, g⟩ W)) : OpAny P N B ops D S Q E0 i :=
  ⟨_, d, getL_ok ho, rfl, hd, js, hj, h⟩
theorem t_yields {o : Oper} {R : Value → World → Prop} (hg : guardE ops o E = some true) (hy : Go.Proofs.Ytkbcbbcacabelaa.Cn.Yields P N B o E W R) (k : ∀ v W', R v W' → D W' ∧ S W W' ∧ Q i v W') : Step1 P N B ops D S Q i o W E := ⟨R, srun_yields hg hy, k⟩
theorem t_gives {o : Oper} {v : Value} {W' : World} (hg : guardE ops o E = some true) (hy : Gives P N B o E W v W') (h1 : D W') (h2 : S W W') (h3 : Q i v W') : Step1 P N B ops D S Q i o W E :=
  t_yields hg hy fun v1 W1 h => by obtain ⟨rfl, rfl⟩ := h; exact ⟨h1, h2, h3⟩
theorem t_call {o : Oper} {f : FuncId} {args : List Value} {R : Value → World → Prop} (hg : guardE ops o E = some true) (hv : evC' E o = some (f, args)) (hE : Ent P f) (hc : ACalls P B f args W R) (k : ∀ v W', R v W' → D W' ∧ S W W' ∧ Q i v W') : Step1 P N B ops D S Q i o W E := ⟨R, srun_call hg hv hE hc, k⟩
end
/-- every one of the operations -/
def AllOps (p : Nat → Prop) : Nat → Nat → Prop
  | _, 0 => True
  | i, k + 1 => p i ∧ AllOps p (i + 1) k
theorem allOps_spec {p : Nat → Prop} : ∀ {k i : Nat}, AllOps p i k → ∀ j, i ≤ j → j < i + k → p j
  | 0, i, _, j, h1, h2 => by omega
  | k + 1, i, h, j, h1, h2 => by
    by_cases e : j = i
    · subst e; exact h.1
    · exact allOps_spec h.2 j (by omega) (by omega)
/-! ### the bytes -/
def storeL (s : ByteArray) (st sp : Int) (xs : List Nat) : List (List Int) :=
  [[82, 73, 86, 49], [(s.size : Int)], bI s, leL st 4, leL sp 2, leL ((packTo xs xs.length).length : Int) 2, packTo xs xs.length]
def storeS (s : ByteArray) (st sp : Int) (xs : List Nat) : ByteArray :=
  strOfNums ((storeL s st sp xs).flatten ++ leL (chk 0 (strOfNums (storeL s st sp xs).flatten) (strOfNums (storeL s st sp xs).flatten).size) 2)
/-- what stays, and rows of more than four cells stay whole -/
def Keep4 (W W' : World) : Prop := Keeps W W' ∧ ∀ k, k < W.heap.size → W'.heap[k]? = W.heap[k]? ∨ ∃ (c : Array Value) (e : TypeId) (fz : Nat × Nat), W.heap[k]? = some (Obj.cells c e fz) ∧ c.size ≤ 4
theorem Keep4.of {W W' : World} (h : Below W.heap.size W W') : Keep4 W W' := ⟨Keeps.of h, fun k hk => .inl (h.block k hk)⟩
theorem Keep4.refl (W : World) : Keep4 W W := Keep4.of (Below.refl _ _)
theorem OwnV.keep4 {W W' : World} {base : Nat} {e : TypeId} {v : Value} {ys : List Value} (h : OwnV W base e v ys) (k : Keep4 W W') (hl : 4 < ys.length) : OwnV W' base e v ys := by
  obtain ⟨h1, h2⟩ := h
  refine ⟨h1, ?_⟩
  rcases h2 with ⟨rfl, h0⟩ | ⟨g, cap, cur, hv, hb, hg, hn, hm, hc, ht⟩
  · omega
  · refine .inr ⟨g, cap, cur, hv, hb, ?_, hn, hm, hc, ht⟩
    rcases k.2 g (Array.getElem?_eq_some_iff.1 hg).1 with h | ⟨c, e', fz, h, hs⟩
    · rw [h]; exact hg
    · rw [hg] at h
      cases h
      omega
/-- a slice of bytes that can be read -/
def Sby (W : World) (v : Value) (xs : List Int) : Prop := ∃ a c, v = .slice a xs.length c ∧ SlV W 1 v xs.length (u8s xs)
theorem Sby.keeps {W W' : World} {v : Value} {xs : List Int} (h : Sby W v xs) (k : Keeps W W') : Sby W' v xs := by
  obtain ⟨a, c, h1, h2⟩ := h
  exact ⟨a, c, h1, k.sl h2⟩
def partsOf (vs : List Value) : List (Option Addr × Nat × Nat) := vs.map fun v => match v with
  | .slice a n c => (a, n, c)
  | _ => (none, 0, 0)
/-- what each operation of the seven parts leaves -/
def QS (base b : Nat) (v3 : Value) (s : ByteArray) (st sp : Int) (xs : List Nat) : Nat → Value → World → Prop
  | 0, v, W => Rowm W base 5 v (u8s [82, 73, 86, 49])
  | 1, v, W => Rowm W base 5 v (u8s [82, 73, 86, 49])
  | 2, v, _ => v = .pointer (some ⟨b, 0, none⟩)
  | 3, v, _ => v = .string s
  | 4, v, _ => v = .int .i64 s.size
  | 5, v, _ => v = .int .u8 s.size
  | 6, v, W => Sby W v [(s.size : Int)]
  | 7, v, _ => v = .pointer (some ⟨b, 0, none⟩)
  | 8, v, _ => v = .string s
  | 9, v, W => Sby W v (bI s)
  | 10, v, _ => v = .pointer (some ⟨b, 1, none⟩)
  | 11, v, _ => v = .int .i64 st
  | 12, v, W => Sby W v (leL st 4)
  | 13, v, _ => v = .pointer (some ⟨b, 2, none⟩)
  | 14, v, _ => v = .int .i64 sp
  | 15, v, W => Sby W v (leL sp 2)
  | 16, v, _ => v = v3
  | 17, v, _ => v = .int .i64 (packTo xs xs.length).length
  | 18, v, W => Sby W v (leL (packTo xs xs.length).length 2)
  | 19, v, _ => v = v3
  | 20, v, W => ∃ b7 ps, v = .slice (some ⟨b7, 0, none⟩) 7 7 ∧ RdV W b7 0 (ps.map slV) ∧ Parts W ps (storeL s st sp xs)
  | 21, v, W => OwnV W base 5 v (u8s (storeL s st sp xs).flatten)
  | 22, v, W => OwnV W base 5 v (u8s (storeL s st sp xs).flatten)
  | _, _, _ => True
theorem Parts.keeps {W W' : World} {ps : List (Option Addr × Nat × Nat)} {yss : List (List Int)} (h : Parts W ps yss) (k : Keeps W W') : Parts W' ps yss :=
  ⟨h.1, fun i hi => ⟨(h.2 i hi).1, k.sl (h.2 i hi).2⟩⟩
theorem storeL_len (s : ByteArray) (st sp : Int) (xs : List Nat) : (storeL s st sp xs).flatten.length = 13 + s.size + (packTo xs xs.length).length := by
  simp only [storeL, List.flatten_cons, List.flatten_nil, List.length_append, List.length_cons, List.length_nil, bI_len, leL_len]
  omega
theorem QS.stay {base b : Nat} {v3 : Value} {s : ByteArray} {st sp : Int} {xs : List Nat} (i : Nat) (v : Value) (W W' : World) (k : Keep4 W W') (h : QS base b v3 s st sp xs i v W) : QS base b v3 s st sp xs i v W' := by
  have hl : 4 < (u8s (storeL s st sp xs).flatten).length := by rw [List.length_map, storeL_len]; omega
  match i, h with
  | 0, h => exact Rowm.keeps h k.1
  | 1, h => exact Rowm.keeps h k.1
  | 2, h => exact h
  | 3, h => exact h
  | 4, h => exact h
  | 5, h => exact h
  | 6, h => exact Sby.keeps h k.1
  | 7, h => exact h
  | 8, h => exact h
  | 9, h => exact Sby.keeps h k.1
  | 10, h => exact h
  | 11, h => exact h
  | 12, h => exact Sby.keeps h k.1
  | 13, h => exact h
  | 14, h => exact h
  | 15, h => exact Sby.keeps h k.1
  | 16, h => exact h
  | 17, h => exact h
  | 18, h => exact Sby.keeps h k.1
  | 19, h => exact h
  | 20, h =>
    obtain ⟨b7, ps, h1, h2, h3⟩ := h
    exact ⟨b7, ps, h1, k.1.rd h2, h3.keeps k.1⟩
  | 21, h => exact OwnV.keep4 h k hl
  | 22, h => exact OwnV.keep4 h k hl
  | n + 23, _ => trivial
theorem Rowm.sby {W : World} {base : Nat} {e : TypeId} {v : Value} {xs : List Int} (h : Rowm W base e v (u8s xs)) : Sby W v xs := by
  have h1 := h.sl
  obtain ⟨b, c, fz, rfl, -⟩ := h
  rw [List.length_map] at h1 ⊢
  exact ⟨_, _, rfl, h1⟩
theorem Hp.ownB {B : Nat} {A W : World} {l : List Res} {v : Value} {n : Nat} {xs : List Int} (H : Hp B A W l) (hm : Res.row 5 1 v n (u8s xs) ∈ l) : OwnV W A.heap.size 5 v (u8s xs) := by
  have hn : (u8s xs).length = n := by have := H.row_len hm; omega
  subst hn
  exact ownsRow_base (H.ok _ hm).1 fun b hb => (H.own _ hm b hb).1
theorem OwnV.sby {W : World} {base : Nat} {e : TypeId} {v : Value} {xs : List Int} (h : OwnV W base e v (u8s xs)) : Sby W v xs := by
  obtain ⟨a, c, rfl⟩ := h.form
  have h1 : SlV W 1 (.slice a (u8s xs).length c) (u8s xs).length (u8s xs) := SlV.of_row ⟨ownsRow_base h fun _ _ => Nat.zero_le _, by simp [u8s, Value.oneCell'], by
    intro v hv
    simp only [u8s, List.mem_map] at hv
    obtain ⟨x, -, rfl⟩ := hv
    rfl⟩
  rw [List.length_map] at h1 ⊢
  exact ⟨_, _, rfl, h1⟩
section
variable {B : Nat} {A W W' : World} {L : List Res}
set_option maxHeartbeats 4000000 in
theorem c_impl_storeRecord {v : Value} {s : ByteArray} {st sp : Int} {xs : List Nat} (hv : RecA W v s st sp xs) (hs : s.size ≤ 255) (hl : xs.length ≤ 128) (hbd : Bd xs) (hst : 0 ≤ st ∧ st ≤ 4294967295) (hsp : 0 ≤ sp ∧ sp ≤ 65535) (hB : B ≤ W.heap.size) :
    ACalls Try.prog B 60 [v] W (fun r W' => r = .string (storeS s st sp xs) ∧ Below W.heap.size W W') := by
  obtain ⟨a, c, rfl, hx⟩ := hv
  have H0 : Hp B W W [] := Hp.new hB
  have hpl := packTo_len xs xs.length
  refine acalls_of Try.func60 rfl Try.ntmps60 (Nat.le_of_ble_eq_true rfl) ?_
  repeat' (first | refine s_pure tabOk rfl rfl rfl rfl ?_ | refine Stp.imp ?_ | refine aops_nil ?_ | refine aw_reg ?_ | refine aw_seq ?_ | refine s_pass rfl rfl rfl ?_ | refine s_len tabOk rfl rfl rfl rfl ?_ | refine aw_true rfl ?_ | refine aw_false rfl ?_ | refine blk_exit_other rfl ?_ | refine s_arith tabOk rfl rfl rfl rfl (by simp only [InR]; omega) ?_ | ((first | ((fail_if_success refine s_told rfl rfl ?_); refine s_part rfl rfl rfl ?_ ?_) | refine aw_if rfl ?_ ?_) <;> intro hc <;> (first | replace hc := DecT.imp hc | simp only [decs] at hc | skip)) | refine s_index1n tabOk rfl rfl rfl rfl (by omega) ?_ | refine s_indexn tabOk rfl rfl rfl rfl (by omega) ?_ | refine s_index1 tabOk rfl rfl rfl rfl (by omega) (by omega) ?_ | refine sh_load tabOk (by assumption) rfl rfl rfl rfl (by repeat (first | exact List.Mem.head _ | apply List.Mem.tail)) (by rfl) (by rfl) ?_ | refine sh_loada tabOk (by assumption) rfl rfl rfl rfl (by repeat (first | exact List.Mem.head _ | apply List.Mem.tail)) (by rfl) ?_ | (refine sh_box (by assumption) rfl rfl rfl rfl rfl rfl ?_; intro _ _ _) | (refine sh_alloc tabOk (by assumption) rfl rfl rfl rfl rfl rfl ?_; intro _ _ _) | (refine sh_store tabOk (by assumption) rfl rfl rfl rfl rfl rfl (by repeat (first | exact Upd.here | apply Upd.there)) (by rfl) ?_; intro _ _) | (refine sh_lit tabOk (by assumption) rfl rfl rfl rfl rfl rfl rfl rfl rfl rfl rfl ?_; intro _ _ _) | refine sh_build tabOk rfl rfl rfl rfl rfl rfl ?_)
  rename_i b W1 H1
  refine s_call rfl rfl rfl rfl ent48 (c_impl_pack (Hp.slFA H1 hx) (by omega) hbd H1.size) ?_
  rintro v3 W2 ⟨h3, g2⟩
  have H2 := Hp.grow (by assumption) g2
  obtain ⟨va, vc, rfl⟩ := h3.form
  repeat' (first | refine s_pure tabOk rfl rfl rfl rfl ?_ | refine Stp.imp ?_ | refine aops_nil ?_ | refine aw_reg ?_ | refine aw_seq ?_ | refine s_pass rfl rfl rfl ?_ | refine s_len tabOk rfl rfl rfl rfl ?_ | refine aw_true rfl ?_ | refine aw_false rfl ?_ | refine blk_exit_other rfl ?_ | refine s_arith tabOk rfl rfl rfl rfl (by simp only [InR]; omega) ?_ | ((first | ((fail_if_success refine s_told rfl rfl ?_); refine s_part rfl rfl rfl ?_ ?_) | refine aw_if rfl ?_ ?_) <;> intro hc <;> (first | replace hc := DecT.imp hc | simp only [decs] at hc | skip)) | refine s_index1n tabOk rfl rfl rfl rfl (by omega) ?_ | refine s_indexn tabOk rfl rfl rfl rfl (by omega) ?_ | refine s_index1 tabOk rfl rfl rfl rfl (by omega) (by omega) ?_ | refine sh_load tabOk (by assumption) rfl rfl rfl rfl (by repeat (first | exact List.Mem.head _ | apply List.Mem.tail)) (by rfl) (by rfl) ?_ | refine sh_loada tabOk (by assumption) rfl rfl rfl rfl (by repeat (first | exact List.Mem.head _ | apply List.Mem.tail)) (by rfl) ?_ | (refine sh_box (by assumption) rfl rfl rfl rfl rfl rfl ?_; intro _ _ _) | (refine sh_alloc tabOk (by assumption) rfl rfl rfl rfl rfl rfl ?_; intro _ _ _) | (refine sh_store tabOk (by assumption) rfl rfl rfl rfl rfl rfl (by repeat (first | exact Upd.here | apply Upd.there)) (by rfl) ?_; intro _ _) | (refine sh_lit tabOk (by assumption) rfl rfl rfl rfl rfl rfl rfl rfl rfl rfl rfl ?_; intro _ _ _) | refine sh_build tabOk rfl rfl rfl rfl rfl rfl ?_)
  have hblk := H2.blk (b := b) (by repeat (first | exact List.Mem.head _ | apply List.Mem.tail))
  have hB2 := H2.size
  have hL := storeL_len s st sp xs
  refine aw_any followsMixed (fun W' => Below W2.heap.size W2 W') Keep4 (QS W2.heap.size b (.slice va (u8s (packTo xs xs.length)).length vc) s st sp xs) [(1, .pointer (some ⟨b, 0, none⟩)), (2, .string ⟨#[]⟩), (3, .slice va (u8s (packTo xs xs.length)).length vc)] (by exact (by repeat (first | exact less_nil | refine less_cons rfl ?_))) (by kernel_rfl) (Below.refl _ _) QS.stay ?_ ?_
  · intro i hi
    refine allOps_spec (i := 0) (k := 23) ?_ i (Nat.zero_le _) hi
    have ok : ∀ {W3 : World}, Below W2.heap.size W2 W3 → (Res.blk b [.string s, .int .i64 st, .int .i64 sp, .slice a xs.length c] 37).ok W3 := fun hD => (Hp.grow H2 hD).ok _ (by repeat (first | exact List.Mem.head _ | apply List.Mem.tail))
    have al : ∀ {W3 : World} (o : Obj), Below W2.heap.size W2 W3 → Below W2.heap.size W2 (W3.alloc o) := fun o hD => hD.alloc hD.size o
    have ka : ∀ {W3 : World} (o : Obj), Keep4 W3 (W3.alloc o) := fun o => Keep4.of ((Below.refl _ _).alloc (Nat.le_refl _) o)
    have big : ∀ {W3 : World}, Below W2.heap.size W2 W3 → B ≤ W3.heap.size := fun hD => Nat.le_trans hB2 hD.size
    have ub : ∀ (xs : List Int), ∀ v ∈ u8s xs, v.oneCell' = true ∧ cl v = v := by
      intro xs v hv
      simp only [u8s, List.mem_map] at hv
      obtain ⟨x, -, rfl⟩ := hv
      exact ⟨rfl, rfl⟩
    refine ⟨?_, ?_, ?_, ?_, ?_, ?_, ?_, ?_, ?_, ?_, ?_, ?_, ?_, ?_, ?_, ?_, ?_, ?_, ?_, ?_, ?_, ?_, ?_, trivial⟩
    · exact any_op rfl rfl [] rfl fun W3 hD => t_gives rfl (gives_buildSlice tabOk rfl rfl (by simp [Value.cells]) (by decide) (by decide) (by decide)) (al _ hD) (ka _) (rowm_new (vs := u8s [82, 73, 86, 49]) hD.size (ub _))
    · refine any_op rfl rfl [(0, 8)] rfl fun W3 hD v hv => ?_
      have hv0 : Rowm W3 W2.heap.size 5 v (u8s [82, 73, 86, 49]) := hv
      obtain ⟨g, cs, fz, rfl, -⟩ := hv
      exact t_yields rfl (yields_markBytes tabOk rfl hv0 hD.size) fun v' W' ⟨e, h1, h2, h3, h4⟩ => ⟨hD.trans h3, ⟨h2, fun k _ => (h4 k).imp id fun ⟨c, e, fz, h, h'⟩ => ⟨c, e, fz, h, by rw [h']; decide⟩⟩, by rw [e]; exact h1⟩
    · exact any_op rfl rfl [] rfl fun W3 hD => t_gives rfl (gives_evP tabOk rfl) hD (Keep4.refl _) rfl
    · refine any_op rfl rfl [(2, 10)] rfl fun W3 hD v hv => ?_
      obtain rfl : v = _ := hv
      exact t_gives rfl (gh_load tabOk rfl (ok hD) rfl rfl) hD (Keep4.refl _) rfl
    · refine any_op rfl rfl [(3, 11)] rfl fun W3 hD v hv => ?_
      obtain rfl : v = _ := hv
      exact t_gives rfl (gives_evL tabOk rfl) hD (Keep4.refl _) rfl
    · refine any_op rfl rfl [(4, 12)] rfl fun W3 hD v hv => ?_
      obtain rfl : v = _ := hv
      refine t_gives rfl (gives_evA tabOk rfl) hD (Keep4.refl _) ?_
      show Value.int .u8 _ = .int .u8 _
      rw [wrap_u8]; congr 1; omega
    · refine any_op rfl rfl [(5, 13)] rfl fun W3 hD v hv => ?_
      obtain rfl : v = _ := hv
      exact t_gives rfl (gives_buildSlice tabOk rfl rfl (by simp [Value.cells]) (by decide) (by decide) (by simp)) (al _ hD) (ka _) (Rowm.sby (base := W2.heap.size) (e := 5) (rowm_new (vs := u8s [(s.size : Int)]) hD.size (ub _)))
    · exact any_op rfl rfl [] rfl fun W3 hD => t_gives rfl (gives_evP tabOk rfl) hD (Keep4.refl _) rfl
    · refine any_op rfl rfl [(7, 15)] rfl fun W3 hD v hv => ?_
      obtain rfl : v = _ := hv
      exact t_gives rfl (gh_load tabOk rfl (ok hD) rfl rfl) hD (Keep4.refl _) rfl
    · refine any_op rfl rfl [(8, 16)] rfl fun W3 hD v hv => ?_
      obtain rfl : v = _ := hv
      exact t_yields rfl (yields_strBytes tabOk rfl) fun v' W' ⟨a, c, e, h1, h2⟩ => ⟨hD.trans (h2.mono hD.size), Keep4.of h2, ⟨a, c, e, h1⟩⟩
    · exact any_op rfl rfl [] rfl fun W3 hD => t_gives rfl (gives_evP tabOk rfl) hD (Keep4.refl _) rfl
    · refine any_op rfl rfl [(10, 18)] rfl fun W3 hD v hv => ?_
      obtain rfl : v = _ := hv
      exact t_gives rfl (gh_load tabOk rfl (ok hD) rfl rfl) hD (Keep4.refl _) rfl
    · refine any_op rfl rfl [(11, 19)] rfl fun W3 hD v hv => ?_
      obtain rfl : v = _ := hv
      exact t_call rfl rfl ent88 (c_impl_little (k := 4) hst.1 (by omega) (by decide) (big hD)) fun v' W' ⟨h1, h2⟩ => ⟨hD.trans (h2.mono hD.size), Keep4.of h2, h1.sby⟩
    · exact any_op rfl rfl [] rfl fun W3 hD => t_gives rfl (gives_evP tabOk rfl) hD (Keep4.refl _) rfl
    · refine any_op rfl rfl [(13, 21)] rfl fun W3 hD v hv => ?_
      obtain rfl : v = _ := hv
      exact t_gives rfl (gh_load tabOk rfl (ok hD) rfl rfl) hD (Keep4.refl _) rfl
    · refine any_op rfl rfl [(14, 22)] rfl fun W3 hD v hv => ?_
      obtain rfl : v = _ := hv
      exact t_call rfl rfl ent88 (c_impl_little (k := 2) hsp.1 (by omega) (by decide) (big hD)) fun v' W' ⟨h1, h2⟩ => ⟨hD.trans (h2.mono hD.size), Keep4.of h2, h1.sby⟩
    · exact any_op rfl rfl [] rfl fun W3 hD => t_gives rfl (gives_evP tabOk rfl) hD (Keep4.refl _) rfl
    · refine any_op rfl rfl [(16, 24)] rfl fun W3 hD v hv => ?_
      obtain rfl : v = _ := hv
      refine t_gives rfl (gives_evL tabOk rfl) hD (Keep4.refl _) ?_
      show Value.int .i64 _ = .int .i64 _
      rw [List.length_map]
    · refine any_op rfl rfl [(17, 25)] rfl fun W3 hD v hv => ?_
      obtain rfl : v = _ := hv
      exact t_call rfl rfl ent88 (c_impl_little (k := 2) (by omega) (by omega) (by decide) (big hD)) fun v' W' ⟨h1, h2⟩ => ⟨hD.trans (h2.mono hD.size), Keep4.of h2, h1.sby⟩
    · exact any_op rfl rfl [] rfl fun W3 hD => t_gives rfl (gives_evP tabOk rfl) hD (Keep4.refl _) rfl
    · refine any_op rfl rfl [(1, 9), (6, 14), (9, 17), (12, 20), (15, 23), (18, 26), (19, 27)] rfl fun W3 hD v1 q1 v2 q2 v3 q3 v4 q4 v5 q5 v6 q6 v7 q7 => ?_
      have q1 : Sby W3 v1 [82, 73, 86, 49] := Rowm.sby (show Rowm _ _ _ _ _ from q1)
      obtain rfl : v7 = _ := q7
      have q7 := Sby.keeps (OwnV.sby h3) (Keeps.of hD)
      obtain ⟨a1, c1, rfl, p1⟩ := q1
      obtain ⟨a2, c2, rfl, p2⟩ := (show Sby _ _ _ from q2)
      obtain ⟨a3, c3, rfl, p3⟩ := (show Sby _ _ _ from q3)
      obtain ⟨a4, c4, rfl, p4⟩ := (show Sby _ _ _ from q4)
      obtain ⟨a5, c5, rfl, p5⟩ := (show Sby _ _ _ from q5)
      obtain ⟨a6, c6, rfl, p6⟩ := (show Sby _ _ _ from q6)
      obtain ⟨a7, c7, e7, p7⟩ := q7
      rw [e7] at p7 ⊢
      refine t_gives rfl (gives_buildSlice tabOk rfl rfl (by simp [Value.cells]) (by decide) (by decide) (by simp)) (al _ hD) (ka _) ?_
      refine ⟨W3.heap.size, [(a1, 4, c1), (a2, 1, c2), (a3, (bI s).length, c3), (a4, (leL st 4).length, c4), (a5, (leL sp 2).length, c5), (a6, (leL ((packTo xs xs.length).length : Int) 2).length, c6), (a7, (packTo xs xs.length).length, c7)], rfl, ?_, ?_⟩
      · obtain ⟨b8, c8, fz8, e8, -, -, -, h8⟩ := rowm_new (base := 0) (e := 53) (vs := ([(a1, 4, c1), (a2, 1, c2), (a3, (bI s).length, c3), (a4, (leL st 4).length, c4), (a5, (leL sp 2).length, c5), (a6, (leL ((packTo xs xs.length).length : Int) 2).length, c6), (a7, (packTo xs xs.length).length, c7)] : List Sv).map slV) (W := W3) (Nat.zero_le _) (by simp [slV, Value.oneCell', cl])
        cases e8
        exact h8
      · have kk := (ka (W3 := W3) (.cells (cellsAll [.slice a1 4 c1, .slice a2 1 c2, .slice a3 (bI s).length c3, .slice a4 (leL st 4).length c4, .slice a5 (leL sp 2).length c5, .slice a6 (leL ((packTo xs xs.length).length : Int) 2).length c6, .slice a7 (packTo xs xs.length).length c7]) 53)).1
        refine ⟨rfl, fun i hi => ?_⟩
        match i, hi with
        | 0, _ => exact ⟨rfl, kk.sl p1⟩
        | 1, _ => exact ⟨rfl, kk.sl p2⟩
        | 2, _ => exact ⟨rfl, kk.sl p3⟩
        | 3, _ => exact ⟨rfl, kk.sl p4⟩
        | 4, _ => exact ⟨rfl, kk.sl p5⟩
        | 5, _ => exact ⟨rfl, kk.sl p6⟩
        | 6, _ => exact ⟨rfl, kk.sl p7⟩
        | n + 7, hi => exact absurd hi (by simp [storeL])
    · refine any_op rfl rfl [(20, 28)] rfl fun W3 hD v hv => ?_
      obtain ⟨b7, ps, rfl, r7, p7⟩ := hv
      refine t_call rfl rfl ent87 (c_ConcatB (yss := storeL s st sp xs) (big hD) r7 p7 (by omega) (by omega) (by simp [storeL])) fun v' W' ⟨a, c, e, g⟩ => ⟨hD.trans (g.below.mono hD.size), Keep4.of g.below, ?_⟩
      subst e
      have h1 := ownsRow_base (g.ok _ (List.mem_cons_self ..)).1 fun b hb => (g.own _ (List.mem_cons_self ..) b hb).1
      show OwnV _ _ _ _ _
      unfold OwnV
      rw [List.length_map]
      exact ownsRow_base h1 fun b hb => Nat.le_trans hD.size (g.own _ (List.mem_cons_self ..) b hb).1
    · refine any_op rfl rfl [(21, 29)] rfl fun W3 hD v hv => ?_
      exact t_gives rfl (gives_evP tabOk rfl) hD (Keep4.refl _) hv
  · intro E W3 hD hE hQ
    obtain ⟨v4, e4, q4⟩ := hQ 22 _ 4 rfl rfl
    have q4 : OwnV W3 W2.heap.size 5 v4 (u8s (storeL s st sp xs).flatten) := q4
    have H3 := Hp.grow H2 hD
    have H4 : Hp B W W3 (.row 5 1 v4 (u8s (storeL s st sp xs).flatten).length (u8s (storeL s st sp xs).flatten) :: [.blk b [.string s, .int .i64 st, .int .i64 sp, .slice a xs.length c] 37]) := H2.add hD ⟨ownsRow_base q4 fun _ _ => Nat.zero_le _, by simp [u8s, Value.oneCell'], by
      intro v hv
      simp only [u8s, List.mem_map] at hv
      obtain ⟨x, -, rfl⟩ := hv
      rfl⟩ fun k hk => by
        have h5 := q4.lt k hk
        exact h5
    obtain ⟨a4, c4, rfl⟩ := q4.form
    refine thn_normal (AW.less (E' := [(4, .slice a4 (u8s (storeL s st sp xs).flatten).length c4), (2, .string ⟨#[]⟩)]) (fun t u ht => ?_) ?_)
    · by_cases h4 : 4 = t
      · subst h4
        rw [get_same] at ht
        rw [e4]; exact ht
      · rw [get_other h4] at ht
        exact hE t u (by
          by_cases h2 : 2 = t
          · subst h2; exact ht
          · rw [get_other h2] at ht; cases ht)
    · clear H0 H1 H2 H3 hQ hE
      repeat' (first | refine s_pure tabOk rfl rfl rfl rfl ?_ | refine Stp.imp ?_ | refine aops_nil ?_ | refine aw_reg ?_ | refine aw_seq ?_ | refine s_pass rfl rfl rfl ?_ | refine s_len tabOk rfl rfl rfl rfl ?_ | refine aw_true rfl ?_ | refine aw_false rfl ?_ | refine blk_exit_other rfl ?_ | refine s_arith tabOk rfl rfl rfl rfl (by simp only [InR]; omega) ?_ | ((first | ((fail_if_success refine s_told rfl rfl ?_); refine s_part rfl rfl rfl ?_ ?_) | refine aw_if rfl ?_ ?_) <;> intro hc <;> (first | replace hc := DecT.imp hc | simp only [decs] at hc | skip)) | refine s_index1n tabOk rfl rfl rfl rfl (by omega) ?_ | refine s_indexn tabOk rfl rfl rfl rfl (by omega) ?_ | refine s_index1 tabOk rfl rfl rfl rfl (by omega) (by omega) ?_ | refine sh_load tabOk (by assumption) rfl rfl rfl rfl (by repeat (first | exact List.Mem.head _ | apply List.Mem.tail)) (by rfl) (by rfl) ?_ | refine sh_loada tabOk (by assumption) rfl rfl rfl rfl (by repeat (first | exact List.Mem.head _ | apply List.Mem.tail)) (by rfl) ?_ | (refine sh_box (by assumption) rfl rfl rfl rfl rfl rfl ?_; intro _ _ _) | (refine sh_alloc tabOk (by assumption) rfl rfl rfl rfl rfl rfl ?_; intro _ _ _) | (refine sh_store tabOk (by assumption) rfl rfl rfl rfl rfl rfl (by repeat (first | exact Upd.here | apply Upd.there)) (by rfl) ?_; intro _ _) | (refine sh_lit tabOk (by assumption) rfl rfl rfl rfl rfl rfl rfl rfl rfl rfl rfl ?_; intro _ _ _) | refine sh_build tabOk rfl rfl rfl rfl rfl rfl ?_)
      refine s_bytesString tabOk rfl rfl rfl rfl q4 ?_
      repeat' (first | refine s_pure tabOk rfl rfl rfl rfl ?_ | refine Stp.imp ?_ | refine aops_nil ?_ | refine aw_reg ?_ | refine aw_seq ?_ | refine s_pass rfl rfl rfl ?_ | refine s_len tabOk rfl rfl rfl rfl ?_ | refine aw_true rfl ?_ | refine aw_false rfl ?_ | refine blk_exit_other rfl ?_ | refine s_arith tabOk rfl rfl rfl rfl (by simp only [InR]; omega) ?_ | ((first | ((fail_if_success refine s_told rfl rfl ?_); refine s_part rfl rfl rfl ?_ ?_) | refine aw_if rfl ?_ ?_) <;> intro hc <;> (first | replace hc := DecT.imp hc | simp only [decs] at hc | skip)) | refine s_index1n tabOk rfl rfl rfl rfl (by omega) ?_ | refine s_indexn tabOk rfl rfl rfl rfl (by omega) ?_ | refine s_index1 tabOk rfl rfl rfl rfl (by omega) (by omega) ?_ | refine sh_load tabOk (by assumption) rfl rfl rfl rfl (by repeat (first | exact List.Mem.head _ | apply List.Mem.tail)) (by rfl) (by rfl) ?_ | refine sh_loada tabOk (by assumption) rfl rfl rfl rfl (by repeat (first | exact List.Mem.head _ | apply List.Mem.tail)) (by rfl) ?_ | (refine sh_box (by assumption) rfl rfl rfl rfl rfl rfl ?_; intro _ _ _) | (refine sh_alloc tabOk (by assumption) rfl rfl rfl rfl rfl rfl ?_; intro _ _ _) | (refine sh_store tabOk (by assumption) rfl rfl rfl rfl rfl rfl (by repeat (first | exact Upd.here | apply Upd.there)) (by rfl) ?_; intro _ _) | (refine sh_lit tabOk (by assumption) rfl rfl rfl rfl rfl rfl rfl rfl rfl rfl rfl ?_; intro _ _ _) | refine sh_build tabOk rfl rfl rfl rfl rfl rfl ?_)
      refine s_call rfl rfl rfl rfl ent89 (c_impl_check (by decide) (by rw [strOfNums_size]; omega)) ?_
      rintro _ _ ⟨rfl, rfl⟩
      have hc := chk_range (n := 0) (s := strOfNums (storeL s st sp xs).flatten) (by decide) (strOfNums (storeL s st sp xs).flatten).size
      repeat' (first | refine s_pure tabOk rfl rfl rfl rfl ?_ | refine Stp.imp ?_ | refine aops_nil ?_ | refine aw_reg ?_ | refine aw_seq ?_ | refine s_pass rfl rfl rfl ?_ | refine s_len tabOk rfl rfl rfl rfl ?_ | refine aw_true rfl ?_ | refine aw_false rfl ?_ | refine blk_exit_other rfl ?_ | refine s_arith tabOk rfl rfl rfl rfl (by simp only [InR]; omega) ?_ | ((first | ((fail_if_success refine s_told rfl rfl ?_); refine s_part rfl rfl rfl ?_ ?_) | refine aw_if rfl ?_ ?_) <;> intro hc <;> (first | replace hc := DecT.imp hc | simp only [decs] at hc | skip)) | refine s_index1n tabOk rfl rfl rfl rfl (by omega) ?_ | refine s_indexn tabOk rfl rfl rfl rfl (by omega) ?_ | refine s_index1 tabOk rfl rfl rfl rfl (by omega) (by omega) ?_ | refine sh_load tabOk (by assumption) rfl rfl rfl rfl (by repeat (first | exact List.Mem.head _ | apply List.Mem.tail)) (by rfl) (by rfl) ?_ | refine sh_loada tabOk (by assumption) rfl rfl rfl rfl (by repeat (first | exact List.Mem.head _ | apply List.Mem.tail)) (by rfl) ?_ | (refine sh_box (by assumption) rfl rfl rfl rfl rfl rfl ?_; intro _ _ _) | (refine sh_alloc tabOk (by assumption) rfl rfl rfl rfl rfl rfl ?_; intro _ _ _) | (refine sh_store tabOk (by assumption) rfl rfl rfl rfl rfl rfl (by repeat (first | exact Upd.here | apply Upd.there)) (by rfl) ?_; intro _ _) | (refine sh_lit tabOk (by assumption) rfl rfl rfl rfl rfl rfl rfl rfl rfl rfl rfl ?_; intro _ _ _) | refine sh_build tabOk rfl rfl rfl rfl rfl rfl ?_)
      refine s_call rfl rfl rfl rfl ent88 (c_impl_little (k := 2) hc.1 (by omega) (by decide) (Hp.size (by assumption))) ?_
      rintro v5 W5 ⟨h5, g5⟩
      have H5 := Hp.grow H4 g5
      obtain ⟨a5, c5, rfl, p5⟩ := OwnV.sby h5
      refine sh_append tabOk H5 rfl rfl rfl rfl rfl rfl rfl rfl rfl (fun _ _ => (by repeat (first | exact Upd.here | apply Upd.there))) p5 (by rw [List.length_map, leL_len]; omega) ?_
      intro a7 c7 W7 H7
      have h7 : (u8s (storeL s st sp xs).flatten).length + (leL (chk 0 (strOfNums (storeL s st sp xs).flatten) (strOfNums (storeL s st sp xs).flatten).size) 2).length = ((storeL s st sp xs).flatten ++ leL (chk 0 (strOfNums (storeL s st sp xs).flatten) (strOfNums (storeL s st sp xs).flatten).size) 2).length := by
        rw [List.length_append, List.length_map]
      rw [h7, ← List.map_append] at H7
      rw [h7]
      have q7 := Hp.ownB H7 (List.mem_cons_self ..)
      refine s_bytesString tabOk rfl rfl rfl rfl q7 ?_
      repeat' (first | refine s_pure tabOk rfl rfl rfl rfl ?_ | refine Stp.imp ?_ | refine aops_nil ?_ | refine aw_reg ?_ | refine aw_seq ?_ | refine s_pass rfl rfl rfl ?_ | refine s_len tabOk rfl rfl rfl rfl ?_ | refine aw_true rfl ?_ | refine aw_false rfl ?_ | refine blk_exit_other rfl ?_ | refine s_arith tabOk rfl rfl rfl rfl (by simp only [InR]; omega) ?_ | ((first | ((fail_if_success refine s_told rfl rfl ?_); refine s_part rfl rfl rfl ?_ ?_) | refine aw_if rfl ?_ ?_) <;> intro hc <;> (first | replace hc := DecT.imp hc | simp only [decs] at hc | skip)) | refine s_index1n tabOk rfl rfl rfl rfl (by omega) ?_ | refine s_indexn tabOk rfl rfl rfl rfl (by omega) ?_ | refine s_index1 tabOk rfl rfl rfl rfl (by omega) (by omega) ?_ | refine sh_load tabOk (by assumption) rfl rfl rfl rfl (by repeat (first | exact List.Mem.head _ | apply List.Mem.tail)) (by rfl) (by rfl) ?_ | refine sh_loada tabOk (by assumption) rfl rfl rfl rfl (by repeat (first | exact List.Mem.head _ | apply List.Mem.tail)) (by rfl) ?_ | (refine sh_box (by assumption) rfl rfl rfl rfl rfl rfl ?_; intro _ _ _) | (refine sh_alloc tabOk (by assumption) rfl rfl rfl rfl rfl rfl ?_; intro _ _ _) | (refine sh_store tabOk (by assumption) rfl rfl rfl rfl rfl rfl (by repeat (first | exact Upd.here | apply Upd.there)) (by rfl) ?_; intro _ _) | (refine sh_lit tabOk (by assumption) rfl rfl rfl rfl rfl rfl rfl rfl rfl rfl rfl ?_; intro _ _ _) | refine sh_build tabOk rfl rfl rfl rfl rfl rfl ?_)
      refine retK_ret tabOk (congrArg Array.toList Try.results60) (by repeat (first | exact rv_nil | apply rv_tmp rfl rfl | apply rv_cellH (by assumption) rfl rfl rfl (by repeat (first | exact List.Mem.head _ | apply List.Mem.tail)) rfl)) ?_
      exact ⟨rfl, H7.below⟩
end
end Go.Proofs.Ytkbcbbcacabelaa
