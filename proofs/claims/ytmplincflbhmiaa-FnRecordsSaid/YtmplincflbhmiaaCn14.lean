/- Regions that draw their order: stores; and orders that cross, each one walked. -/
import Derived.Test.YtmplincflbhmiaaCn13
namespace Go.Proofs.Ytmplincflbhmiaa.Cn
set_option linter.unusedSimpArgs false
set_option linter.unusedVariables false
open Go Go.RowKit
section
variable {P : Program} {N B : Nat} {ops : Array Oper} {K : Exit → Env → World → Prop} {D : World → Prop} {E : Env} {W : World} {T : Tab}
theorem srun_skips {o : Oper} {W' : World} (hg : guardE ops o E = some true) (hy : ∀ a w, EnvR E N a → cw B w = W → B ≤ w.heap.size → ∃ w', (execOp a.eval o).run P w = .ok .skip w' ∧ B ≤ w'.heap.size ∧ cw B w' = W') :
    ∀ a w, EnvR E N a → cw B w = W → B ≤ w.heap.size → SRun P B ops o a w (fun v W'' => v = undef ∧ W'' = W') := by
  intro a w ha hw hB
  obtain ⟨w', h1, h2, h3⟩ := hy a w ha hw hB
  exact .inl ⟨guardE_sound ha hg, .inr (.inl ⟨w', h1, h2, rfl, h3⟩)⟩
/-- may be taken now (explicit) -/
def mayX (ops : Array Oper) (listed : Array Bool) (i : Nat) : Bool := Region.noSelect ops && Region.free .any ops listed i && (Region.ready .any ops listed).contains i
theorem x_quiet {fuel : Nat} {listed : Array Bool} {oi : Oper} {v : Value} (i : Nat) (hi : ops[i]? = some oi) (hm : mayX ops listed i = true) (hK : Lax K) (hy : YQ P N B ops D oi v E) (h : SA P N B ops D K fuel (listed.setIfInBounds i true) (putE E oi.dst v) W) : SA P N B ops D K (fuel + 1) listed E W := by
  unfold mayX at hm
  simp only [Bool.and_eq_true] at hm
  exact sa_first hi hm.1.1 hK hm.1.2 hm.2 hy h
/-- one of those that may come up -/
def Turn (P : Program) (N B : Nat) (ops : Array Oper) (D : World → Prop) (K : Exit → Env → World → Prop) (fuel : Nat) (listed : Array Bool) (E : Env) (W : World) (i : Nat) : Prop :=
  ∃ o, ops[i]? = some o ∧ dstOk N o.dst = true ∧ ∃ R : Value → World → Prop, (∀ a w, EnvR E N a → cw B w = W → B ≤ w.heap.size → SRun P B ops o a w R) ∧
      ∀ v W', R v W' → D W' ∧ SA P N B ops D K fuel (listed.setIfInBounds i true) (putE E o.dst v) W'
def Each (p : Nat → Prop) : List Nat → Prop
  | [] => True
  | i :: r => p i ∧ Each p r
theorem each_mem {p : Nat → Prop} : ∀ (l : List Nat), Each p l → ∀ i ∈ l, p i
  | [], _, i, hi => by cases hi
  | j :: r, h, i, hi => by
    rcases List.mem_cons.1 hi with rfl | hi
    · exact h.1
    · exact each_mem r h.2 i hi
theorem x_all {fuel : Nat} {listed : Array Bool} (l : List Nat) (hr : (Region.ready .any ops listed == l && !l.isEmpty) = true) (h : Each (Turn P N B ops D K fuel listed E W) l) : SA P N B ops D K (fuel + 1) listed E W := by
  simp only [Bool.and_eq_true] at hr
  refine sa_all (eq_of_beq hr.1) (fun e => by rw [e] at hr; simp at hr) fun i hi => each_mem l h i hi
theorem x_one {p : Nat → Prop} {i : Nat} {r : List Nat} (h1 : p i) (h2 : Each p r) : Each p (i :: r) := ⟨h1, h2⟩
theorem x_none {p : Nat → Prop} : Each p [] := trivial
theorem x_done {fuel : Nat} {listed : Array Bool} (hr : (Region.ready .any ops listed).isEmpty = true) (h : K .normal E W) : SA P N B ops D K fuel listed E W :=
  sa_done (by simpa using hr) (fun _ => h) fuel
section steps
variable {fuel : Nat} {listed : Array Bool} {i : Nat} {rest : List Nat} {d : Nat} {op : Op} {ty : TypeId} {pos : String} {aft : Array Edge} {g : Option (Nat × Bool)}
theorem turn_yields {R : Value → World → Prop} (ho : getL ops.toList i = some ⟨some d, op, ty, pos, aft, g⟩) (hg : guardE ops ⟨some d, op, ty, pos, aft, g⟩ E = some true) (hd : Nat.ble (d + 1) N = true)
    (hy : Yields P N B ⟨some d, op, ty, pos, aft, g⟩ E W R) (k : ∀ v W', R v W' → D W' ∧ SA P N B ops D K fuel (listed.setIfInBounds i true) ((d, v) :: E) W') : Turn P N B ops D K fuel listed E W i :=
  ⟨_, getL_ok ho, hd, R, srun_yields hg hy, k⟩
theorem turn_call {f : FuncId} {args : List Value} {R : Value → World → Prop} (ho : getL ops.toList i = some ⟨some d, op, ty, pos, aft, g⟩) (hg : guardE ops ⟨some d, op, ty, pos, aft, g⟩ E = some true) (hd : Nat.ble (d + 1) N = true)
    (hv : evC' E ⟨some d, op, ty, pos, aft, g⟩ = some (f, args)) (hE : Ent P f) (hc : ACalls P B f args W R) (k : ∀ v W', R v W' → D W' ∧ SA P N B ops D K fuel (listed.setIfInBounds i true) ((d, v) :: E) W') : Turn P N B ops D K fuel listed E W i :=
  ⟨_, getL_ok ho, hd, R, srun_call hg hv hE hc, k⟩
theorem turn_skips {W1 : World} (ho : getL ops.toList i = some ⟨none, op, ty, pos, aft, g⟩) (hg : guardE ops ⟨none, op, ty, pos, aft, g⟩ E = some true)
    (hy : ∀ a w, EnvR E N a → cw B w = W → B ≤ w.heap.size → ∃ w', (execOp a.eval ⟨none, op, ty, pos, aft, g⟩).run P w = .ok .skip w' ∧ B ≤ w'.heap.size ∧ cw B w' = W1)
    (k : D W1 ∧ SA P N B ops D K fuel (listed.setIfInBounds i true) E W1) : Turn P N B ops D K fuel listed E W i :=
  ⟨_, getL_ok ho, rfl, _, srun_skips hg hy, fun v W' h => by obtain ⟨-, rfl⟩ := h; exact k⟩
theorem x_gives (i : Nat) (hK : Lax K) {v : Value} (ho : getL ops.toList i = some ⟨some d, op, ty, pos, aft, g⟩) (hg : guardE ops ⟨some d, op, ty, pos, aft, g⟩ E = some true) (hd : Nat.ble (d + 1) N = true) (hm : mayX ops listed i = true)
    (hy : ∀ W, D W → Gives P N B ⟨some d, op, ty, pos, aft, g⟩ E W v W) (k : SA P N B ops D K fuel (listed.setIfInBounds i true) ((d, v) :: E) W) : SA P N B ops D K (fuel + 1) listed E W :=
  x_quiet i (getL_ok ho) hm hK (yq_gives hd hg hy) k
theorem x_pure (i : Nat) (hT : TabOk P T) (hK : Lax K) {v : Value} (ho : getL ops.toList i = some ⟨some d, op, ty, pos, aft, g⟩) (hg : guardE ops ⟨some d, op, ty, pos, aft, g⟩ E = some true) (hd : Nat.ble (d + 1) N = true)
    (hv : evP T E ⟨some d, op, ty, pos, aft, g⟩ = some v) (hm : mayX ops listed i = true) (k : SA P N B ops D K fuel (listed.setIfInBounds i true) ((d, v) :: E) W) : SA P N B ops D K (fuel + 1) listed E W := x_gives i hK ho hg hd hm (fun _ _ => gives_evP hT hv) k
theorem x_arith (i : Nat) (hT : TabOk P T) (hK : Lax K) {k' : IntKind} {z : Int} (ho : getL ops.toList i = some ⟨some d, op, ty, pos, aft, g⟩) (hg : guardE ops ⟨some d, op, ty, pos, aft, g⟩ E = some true) (hd : Nat.ble (d + 1) N = true)
    (hv : evA T E ⟨some d, op, ty, pos, aft, g⟩ = some (k', z)) (hr : InR k' z) (hm : mayX ops listed i = true) (k : SA P N B ops D K fuel (listed.setIfInBounds i true) ((d, .int k' z) :: E) W) : SA P N B ops D K (fuel + 1) listed E W :=
  x_gives i hK ho hg hd hm (fun _ _ => gives_evA hT hv) (by rw [wrap_inR hr]; exact k)
theorem x_load (i : Nat) (hT : TabOk P T) (hK : Lax K) {b j : Nat} {l : List Value} {e : TypeId} {v : Value} (ho : getL ops.toList i = some ⟨some d, op, ty, pos, aft, g⟩) (hg : guardE ops ⟨some d, op, ty, pos, aft, g⟩ E = some true) (hd : Nat.ble (d + 1) N = true)
    (hv : evLd T E ⟨some d, op, ty, pos, aft, g⟩ = some ⟨b, j, none⟩) (hb : ∀ W, D W → Blkc W b l e) (hj : l[j]? = some v) (hp : cv (cl v) = cl v) (hm : mayX ops listed i = true) (k : SA P N B ops D K fuel (listed.setIfInBounds i true) ((d, cl v) :: E) W) : SA P N B ops D K (fuel + 1) listed E W :=
  x_gives i hK ho hg hd hm (fun W hD => gives_load hT hv ((hb W hD).cell hj) hp) k
/-- a store where nothing else can come up -/
theorem d_store (hT : TabOk P T) {b off n : Nat} {v : Value} {l : List Value} (l' : List Value) {e : TypeId} (ho : getL ops.toList i = some ⟨none, op, ty, pos, aft, g⟩) (hg : guardE ops ⟨none, op, ty, pos, aft, g⟩ E = some true) (hv : evSt T E ⟨none, op, ty, pos, aft, g⟩ = some (b, off, n, v)) (hp : plain v = some v) (hn : v.cells.size = n) (h1 : v.cells.toList.all (·.oneCell') = true) (hm : only ops i rest = true)
    (hB : B ≤ b) (hb : Blkc W b l e) (hl : Nat.ble (off + n) l.length = true) (he : l.take off ++ v.cells.toList ++ l.drop (off + v.cells.toList.length) = l')
    (k : ∀ W', Blkc W' b l' e → Same b W W' → D W' ∧ SD P N B ops D K rest E W') : SD P N B ops D K (i :: rest) E W := by
  subst he
  refine sd_single (getL_ok ho) hm rfl (srun_skips hg (skips_store hT hv hp hn h1 hB hb (by have := Nat.le_of_ble_eq_true hl; simpa using this))) ?_
  rintro v' W' ⟨-, rfl⟩
  rw [splice_list]
  exact k _ hb.set ⟨fun g hne => setRow_other _ _ _ _ hne, by simp [World.setRow], rfl, rfl, rfl⟩
theorem turn_store (hT : TabOk P T) {b off n : Nat} {v : Value} {l : List Value} (l' : List Value) {e : TypeId} (ho : getL ops.toList i = some ⟨none, op, ty, pos, aft, g⟩) (hg : guardE ops ⟨none, op, ty, pos, aft, g⟩ E = some true) (hv : evSt T E ⟨none, op, ty, pos, aft, g⟩ = some (b, off, n, v)) (hp : plain v = some v) (hn : v.cells.size = n) (h1 : v.cells.toList.all (·.oneCell') = true)
    (hB : B ≤ b) (hb : Blkc W b l e) (hl : Nat.ble (off + n) l.length = true) (he : l.take off ++ v.cells.toList ++ l.drop (off + v.cells.toList.length) = l')
    (k : ∀ W', Blkc W' b l' e → Same b W W' → D W' ∧ SA P N B ops D K fuel (listed.setIfInBounds i true) E W') : Turn P N B ops D K fuel listed E W i := by
  subst he
  refine turn_skips ho hg (skips_store hT hv hp hn h1 hB hb (by have := Nat.le_of_ble_eq_true hl; simpa using this)) ?_
  rw [splice_list]
  exact k _ hb.set ⟨fun g hne => setRow_other _ _ _ _ hne, by simp [World.setRow], rfl, rfl, rfl⟩
end steps
end
end Go.Proofs.Ytmplincflbhmiaa.Cn
