/- Regions that draw their order, taken in an order that the user tells; where several may come up that write, each is walked. -/
import Derived.Test.YtmplincflbhmiaaCn15
namespace Go.Proofs.Ytmplincflbhmiaa.Cn
set_option linter.unusedSimpArgs false
set_option linter.unusedVariables false
open Go Go.RowKit
section
variable {P : Program} {N B : Nat} {ops : Array Oper} {K : Exit → Env → World → Prop} {D : World → Prop} {E : Env} {W : World} {T : Tab}
/-- l: what is still to come -/
def SO (P : Program) (N B : Nat) (ops : Array Oper) (D : World → Prop) (K : Exit → Env → World → Prop) (l : List Nat) (E : Env) (W : World) : Prop := SA P N B ops D K l.length (lstO ops.size l) E W
theorem so_quiet {i : Nat} {l : List Nat} {oi : Oper} {v : Value} (hi : ops[i]? = some oi) (hm : mayO ops i l = true) (hK : Lax K) (hy : YQ P N B ops D oi v E) (h : SO P N B ops D K l (putE E oi.dst v) W) : SO P N B ops D K (i :: l) E W := by
  simp only [mayO, Bool.and_eq_true, Bool.not_eq_true'] at hm
  obtain ⟨⟨⟨⟨e0, hn⟩, hs⟩, hf⟩, hr⟩ := hm
  have e := Nat.le_of_ble_eq_true e0
  unfold SO at h ⊢
  simp only [List.length_cons]
  refine sa_first hi hs hK hf hr hy ?_
  rw [lstO_cons (by omega) hn]
  exact h
/-- l without i is l' -/
def takenO (n i : Nat) (l l' : List Nat) : Bool := (lstO n l).setIfInBounds i true == lstO n l' && Nat.beq l.length (l'.length + 1)
def TurnO (P : Program) (N B : Nat) (ops : Array Oper) (D : World → Prop) (K : Exit → Env → World → Prop) (l : List Nat) (E : Env) (W : World) (i : Nat) : Prop :=
  ∃ l', takenO ops.size i l l' = true ∧ ∃ o, ops[i]? = some o ∧ dstOk N o.dst = true ∧ ∃ R : Value → World → Prop, (∀ a w, EnvR E N a → cw B w = W → B ≤ w.heap.size → SRun P B ops o a w R) ∧
      ∀ v W', R v W' → D W' ∧ SO P N B ops D K l' (putE E o.dst v) W'
theorem so_all {j : Nat} {l : List Nat} (rs : List Nat) (hr : (Region.ready .any ops (lstO ops.size (j :: l)) == rs && !rs.isEmpty) = true) (h : Each (TurnO P N B ops D K (j :: l) E W) rs) : SO P N B ops D K (j :: l) E W := by
  simp only [Bool.and_eq_true] at hr
  unfold SO
  simp only [List.length_cons]
  refine sa_all (eq_of_beq hr.1) (fun e => by rw [e] at hr; simp at hr) fun i hi => ?_
  obtain ⟨l', ht, o, ho, hd, R, hR, hk⟩ := each_mem rs h i hi
  simp only [takenO, Bool.and_eq_true] at ht
  have e1 := eq_of_beq ht.1
  have e2 := Nat.eq_of_beq_eq_true ht.2
  refine ⟨o, ho, hd, R, hR, fun v W' hv => ⟨(hk v W' hv).1, ?_⟩⟩
  have h2 := (hk v W' hv).2
  unfold SO at h2
  rw [e1]
  rwa [show l.length = l'.length by simpa using e2]
theorem so_done (h : K .normal E W) : SO P N B ops D K [] E W := by
  unfold SO
  exact sa_done (ready_lstO _) (fun _ => h) _
theorem aw_told {id : Nat} (hm : P.follows .mixedOrders = true) (D : World → Prop) (l : List Nat) (hl : orderB ops.size l = true) (hD : D W) (h : SO P N B ops D K l E W) : AW P N B (.region id ops true) K E W := by
  refine aw_draw hm D hD ?_
  unfold orderB at hl
  simp only [Bool.and_eq_true] at hl
  unfold SO at h
  rw [eq_of_beq hl.1, Nat.eq_of_beq_eq_true hl.2] at h
  exact h
section steps
variable {i : Nat} {rest l l' : List Nat} {d : Nat} {op : Op} {ty : TypeId} {pos : String} {aft : Array Edge} {g : Option (Nat × Bool)}
theorem so_gives (hK : Lax K) {v : Value} (ho : getL ops.toList i = some ⟨some d, op, ty, pos, aft, g⟩) (hg : guardE ops ⟨some d, op, ty, pos, aft, g⟩ E = some true) (hd : Nat.ble (d + 1) N = true) (hm : mayO ops i rest = true)
    (hy : ∀ W, D W → Gives P N B ⟨some d, op, ty, pos, aft, g⟩ E W v W) (k : SO P N B ops D K rest ((d, v) :: E) W) : SO P N B ops D K (i :: rest) E W :=
  so_quiet (getL_ok ho) hm hK (yq_gives hd hg hy) k
theorem so_pure (hT : TabOk P T) (hK : Lax K) {v : Value} (ho : getL ops.toList i = some ⟨some d, op, ty, pos, aft, g⟩) (hg : guardE ops ⟨some d, op, ty, pos, aft, g⟩ E = some true) (hd : Nat.ble (d + 1) N = true)
    (hv : evP T E ⟨some d, op, ty, pos, aft, g⟩ = some v) (hm : mayO ops i rest = true) (k : SO P N B ops D K rest ((d, v) :: E) W) : SO P N B ops D K (i :: rest) E W := so_gives hK ho hg hd hm (fun _ _ => gives_evP hT hv) k
theorem so_arith (hT : TabOk P T) (hK : Lax K) {k' : IntKind} {z : Int} (ho : getL ops.toList i = some ⟨some d, op, ty, pos, aft, g⟩) (hg : guardE ops ⟨some d, op, ty, pos, aft, g⟩ E = some true) (hd : Nat.ble (d + 1) N = true)
    (hv : evA T E ⟨some d, op, ty, pos, aft, g⟩ = some (k', z)) (hr : InR k' z) (hm : mayO ops i rest = true) (k : SO P N B ops D K rest ((d, .int k' z) :: E) W) : SO P N B ops D K (i :: rest) E W :=
  so_gives hK ho hg hd hm (fun _ _ => gives_evA hT hv) (by rw [wrap_inR hr]; exact k)
theorem so_load (hT : TabOk P T) (hK : Lax K) {b j : Nat} {c : List Value} {e : TypeId} {v : Value} (ho : getL ops.toList i = some ⟨some d, op, ty, pos, aft, g⟩) (hg : guardE ops ⟨some d, op, ty, pos, aft, g⟩ E = some true) (hd : Nat.ble (d + 1) N = true)
    (hv : evLd T E ⟨some d, op, ty, pos, aft, g⟩ = some ⟨b, j, none⟩) (hb : ∀ W, D W → Blkc W b c e) (hj : c[j]? = some v) (hp : cv (cl v) = cl v) (hm : mayO ops i rest = true) (k : SO P N B ops D K rest ((d, cl v) :: E) W) : SO P N B ops D K (i :: rest) E W :=
  so_gives hK ho hg hd hm (fun W hD => gives_load hT hv ((hb W hD).cell hj) hp) k
theorem so_loada (hT : TabOk P T) (hK : Lax K) {b n : Nat} {c : List Value} {e : TypeId} (ho : getL ops.toList i = some ⟨some d, op, ty, pos, aft, g⟩) (hg : guardE ops ⟨some d, op, ty, pos, aft, g⟩ E = some true) (hd : Nat.ble (d + 1) N = true)
    (hv : evLa T E ⟨some d, op, ty, pos, aft, g⟩ = some (b, 0, n)) (hb : ∀ W, D W → Blkc W b c e) (hn : c.length = n) (hm : mayO ops i rest = true) (k : SO P N B ops D K rest ((d, .agg (c.map cl).toArray) :: E) W) : SO P N B ops D K (i :: rest) E W :=
  so_gives hK ho hg hd hm (fun W hD => gives_loada hT hv (hb W hD).cells hn) k
theorem so_cut (hT : TabOk P T) (hK : Lax K) {a : Option Addr} {n c sz : Nat} {l h : Int} (ho : getL ops.toList i = some ⟨some d, op, ty, pos, aft, g⟩) (hg : guardE ops ⟨some d, op, ty, pos, aft, g⟩ E = some true) (hd : Nat.ble (d + 1) N = true)
    (hv : evCut T E ⟨some d, op, ty, pos, aft, g⟩ = some (.slice a n c, sz, l, h)) (h0 : 0 ≤ l) (h1 : l ≤ h) (h2 : h ≤ c) (hn : n ≤ c) (hm : mayO ops i rest = true) (k : SO P N B ops D K rest ((d, sliced a l.toNat h.toNat c sz) :: E) W) : SO P N B ops D K (i :: rest) E W :=
  so_gives hK ho hg hd hm (fun _ _ => gives_cut hT hv h0 h1 h2 hn) k
theorem so_build (hT : TabOk P T) (hK : Lax K) {pl : List (Nat × Nat)} {tt : TT} {vs : List (Nat × Value)} {z : List Value} (c : List Value) (ho : getL ops.toList i = some ⟨some d, op, ty, pos, aft, g⟩) (hg : guardE ops ⟨some d, op, ty, pos, aft, g⟩ E = some true) (hd : Nat.ble (d + 1) N = true)
    (hv : evBd T E ⟨some d, op, ty, pos, aft, g⟩ = some (pl, tt, vs)) (hz : (zerosOf tt.zero).toList = z) (hl : fillL (nthP pl) z vs = some c) (hm : mayO ops i rest = true) (k : SO P N B ops D K rest ((d, .agg c.toArray) :: E) W) : SO P N B ops D K (i :: rest) E W :=
  so_gives hK ho hg hd hm (fun _ _ => gives_build hT hv hz hl) k
theorem to_yields {R : Value → World → Prop} (l' : List Nat) (ht : takenO ops.size i l l' = true) (ho : getL ops.toList i = some ⟨some d, op, ty, pos, aft, g⟩) (hg : guardE ops ⟨some d, op, ty, pos, aft, g⟩ E = some true) (hd : Nat.ble (d + 1) N = true)
    (hy : Yields P N B ⟨some d, op, ty, pos, aft, g⟩ E W R) (k : ∀ v W', R v W' → D W' ∧ SO P N B ops D K l' ((d, v) :: E) W') : TurnO P N B ops D K l E W i :=
  ⟨l', ht, _, getL_ok ho, hd, R, srun_yields hg hy, k⟩
theorem to_call {f : FuncId} {args : List Value} {R : Value → World → Prop} (l' : List Nat) (ht : takenO ops.size i l l' = true) (ho : getL ops.toList i = some ⟨some d, op, ty, pos, aft, g⟩) (hg : guardE ops ⟨some d, op, ty, pos, aft, g⟩ E = some true) (hd : Nat.ble (d + 1) N = true)
    (hv : evC' E ⟨some d, op, ty, pos, aft, g⟩ = some (f, args)) (hE : Ent P f) (hc : ACalls P B f args W R) (k : ∀ v W', R v W' → D W' ∧ SO P N B ops D K l' ((d, v) :: E) W') : TurnO P N B ops D K l E W i :=
  ⟨l', ht, _, getL_ok ho, hd, R, srun_call hg hv hE hc, k⟩
theorem to_alloc (hT : TabOk P T) {e : TypeId} {tt : TT} {c : List Value} (l' : List Nat) (ht : takenO ops.size i l l' = true) (ho : getL ops.toList i = some ⟨some d, op, ty, pos, aft, g⟩) (hop : op = .alloc e) (hg : guardE ops ⟨some d, op, ty, pos, aft, g⟩ E = some true) (hd : Nat.ble (d + 1) N = true) (hte : T.at e = some tt) (hl : (zerosOf tt.zero).toList = c)
    (k : ∀ b W', W.heap.size ≤ b → Blkc W' b c e → Below W.heap.size W W' → D W' ∧ SO P N B ops D K l' ((d, .pointer (some ⟨b, 0, none⟩)) :: E) W') : TurnO P N B ops D K l E W i :=
  to_yields l' ht ho hg hd (gives_alloc hT hop hte) fun v W' h => by
    obtain ⟨rfl, rfl⟩ := h
    exact k _ _ (Nat.le_refl _) (Blkc.new hl) ((Below.refl _ _).alloc (Nat.le_refl _) _)
theorem to_buildSlice (hT : TabOk P T) {e : TypeId} {tt : TT} {vs : List Value} (l' : List Nat) (htk : takenO ops.size i l l' = true) (ho : getL ops.toList i = some ⟨some d, op, ty, pos, aft, g⟩) (hg : guardE ops ⟨some d, op, ty, pos, aft, g⟩ E = some true) (hd : Nat.ble (d + 1) N = true)
    (hv : evBs T E ⟨some d, op, ty, pos, aft, g⟩ = some (e, vs)) (ht : T.at e = some tt) (hs : ∀ v ∈ vs, v.cells.size = tt.size) (hpos : 0 < tt.size) (hz : tt.zero.cells.size ≠ 0) (hlen : vs.length * tt.size ≤ 16777216)
    (k : D (W.alloc (.cells (cellsAll vs) e)) ∧ SO P N B ops D K l' ((d, .slice (some ⟨W.heap.size, 0, none⟩) vs.length vs.length) :: E) (W.alloc (.cells (cellsAll vs) e))) : TurnO P N B ops D K l E W i :=
  to_yields l' htk ho hg hd (gives_buildSlice hT hv ht hs hpos hz hlen) fun v W' h => by
    obtain ⟨rfl, rfl⟩ := h
    exact k
theorem to_store (hT : TabOk P T) {b off n : Nat} {v : Value} {c : List Value} (c' : List Value) {e : TypeId} (l' : List Nat) (ht : takenO ops.size i l l' = true) (ho : getL ops.toList i = some ⟨none, op, ty, pos, aft, g⟩) (hg : guardE ops ⟨none, op, ty, pos, aft, g⟩ E = some true) (hv : evSt T E ⟨none, op, ty, pos, aft, g⟩ = some (b, off, n, v)) (hp : plain v = some v) (hn : v.cells.size = n) (h1 : v.cells.toList.all (·.oneCell') = true)
    (hB : B ≤ b) (hb : Blkc W b c e) (hl : Nat.ble (off + n) c.length = true) (he : c.take off ++ v.cells.toList ++ c.drop (off + v.cells.toList.length) = c')
    (k : ∀ W', Blkc W' b c' e → Same b W W' → D W' ∧ SO P N B ops D K l' E W') : TurnO P N B ops D K l E W i := by
  subst he
  refine ⟨l', ht, _, getL_ok ho, rfl, _, srun_skips hg (skips_store hT hv hp hn h1 hB hb (by have := Nat.le_of_ble_eq_true hl; simpa using this)), ?_⟩
  rintro v' W' ⟨-, rfl⟩
  rw [splice_list]
  exact k _ hb.set ⟨fun g hne => setRow_other _ _ _ _ hne, by simp [World.setRow], rfl, rfl, rfl⟩
end steps
end
attribute [irreducible] SO
end Go.Proofs.Ytmplincflbhmiaa.Cn
