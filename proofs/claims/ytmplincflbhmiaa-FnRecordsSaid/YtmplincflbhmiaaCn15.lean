/- Regions that draw their order, of two parts: the later part writes over what the earlier part has read. -/
import Derived.Test.YtmplincflbhmiaaCn14
namespace Go.Proofs.Ytmplincflbhmiaa.Cn
set_option linter.unusedSimpArgs false
set_option linter.unusedVariables false
open Go Go.RowKit
section
variable {P : Program} {N B : Nat} {ops : Array Oper} {K : Exit → Env → World → Prop} {D : World → Prop} {past needs : Nat → Bool} {E : Env} {W : World} {T : Tab}
def phasedB (ops : Array Oper) (past needs : Nat → Bool) : Bool :=
  (List.range ops.size).all fun j => !past j || match ops[j]? with
    | some o => (List.range ops.size).all fun i => !needs i || o.after.any fun e => Region.binds .any e && e.on == i
    | none => true
theorem phasedB_spec (h : phasedB ops past needs = true) : Phased .any ops past needs := by
  intro j i o ho hj hi hlt
  have hjl : j < ops.size := (Array.getElem?_eq_some_iff.1 ho).1
  unfold phasedB at h
  rw [List.all_eq_true] at h
  have h1 := h j (by simpa using hjl)
  rw [hj, ho] at h1
  simp only [Bool.not_true, Bool.false_or, List.all_eq_true] at h1
  have h2 := h1 i (by simpa using hlt)
  rw [hi, Bool.not_true, Bool.false_or, Array.any_eq_true] at h2
  obtain ⟨k, hk, h3⟩ := h2
  simp only [Bool.and_eq_true, beq_iff_eq] at h3
  exact ⟨o.after[k], Array.getElem_mem hk, h3.1, h3.2⟩
/-- listed: all but these -/
def lstO (n : Nat) (l : List Nat) : Array Bool := ((List.range n).map fun j => !l.contains j).toArray
theorem lstO_cons {n i : Nat} {l : List Nat} (hi : i < n) (hn : l.contains i = false) : (lstO n (i :: l)).setIfInBounds i true = lstO n l := by
  apply Array.ext_getElem?
  intro k
  simp only [Array.getElem?_setIfInBounds, lstO, List.getElem?_toArray, List.size_toArray, List.length_map, List.length_range, List.getElem?_map]
  by_cases hk : i = k
  · subst hk
    have hn' : ¬ i ∈ l := by simpa using hn
    rw [if_pos rfl, if_pos hi]
    simp [hi, hn']
  · rw [if_neg hk]
    by_cases h : k < n
    · have : ¬ k = i := fun e => hk e.symm
      simp [h, this]
    · simp [h]
/-- may be taken now -/
def mayO (ops : Array Oper) (i : Nat) (l : List Nat) : Bool :=
  Nat.ble (i + 1) ops.size && !l.contains i && Region.noSelect ops && Region.free .any ops (lstO ops.size (i :: l)) i && (Region.ready .any ops (lstO ops.size (i :: l))).contains i
/-- nothing else can come up now -/
def onlyO (ops : Array Oper) (i : Nat) (l : List Nat) : Bool :=
  Nat.ble (i + 1) ops.size && !l.contains i && (Region.ready .any ops (lstO ops.size (i :: l)) == [i])
/-- an order of all -/
def orderB (n : Nat) (l : List Nat) : Bool := lstO n l == Array.replicate n false && Nat.beq l.length n
/-- the earlier part -/
def TP (P : Program) (N B : Nat) (ops : Array Oper) (D : World → Prop) (past needs : Nat → Bool) (K : Exit → Env → World → Prop) (l : List Nat) (E : Env) (W : World) : Prop :=
  Phased .any ops past needs → D W → Real N B E W → SAny P N B .any ops D past K l.length (lstO ops.size l) E W
/-- the later part -/
def TQ (P : Program) (N B : Nat) (ops : Array Oper) (D : World → Prop) (past needs : Nat → Bool) (K : Exit → Env → World → Prop) (l : List Nat) (E : Env) (W : World) : Prop :=
  Real N B E W → SAny P N B .any ops D past K l.length (lstO ops.size l) E W
theorem tp_switch {l : List Nat} (h : TQ P N B ops D past needs K l E W) : TP P N B ops D past needs K l E W := fun _ _ hr => h hr
theorem tp_quiet {i : Nat} {l : List Nat} {oi : Oper} {v : Value} (hi : ops[i]? = some oi) (hm : (mayO ops i l && needs i) = true) (hK : Lax K) (hy : YQ P N B ops D oi v E) (h : TP P N B ops D past needs K l (putE E oi.dst v) W) : TP P N B ops D past needs K (i :: l) E W := by
  intro hph hD hre
  simp only [mayO, Bool.and_eq_true, Bool.not_eq_true'] at hm
  obtain ⟨⟨⟨⟨⟨e0, hn⟩, hs⟩, hf⟩, hr⟩, hp⟩ := hm
  have e := Nat.le_of_ble_eq_true e0
  simp only [List.length_cons]
  refine sany_first hi (Region.noSelect_spec hs) hph hp (lax_to hK) _ _ E W (Region.free_spec hi hf) (by simpa using hr) hy hD hre ?_
  rw [lstO_cons (by omega) hn]
  have hre' : Real N B (putE E oi.dst v) W := by
    obtain ⟨a, w, ha, hw, hB⟩ := hre
    subst hw
    have h1 := SRun.real hB ha hy.1 (hy.2 a ha w hD hB)
    obtain ⟨u, w', -, ⟨e1, e2⟩, h3⟩ := h1.some hB
    rw [e1, e2] at h3
    exact h3
  exact h hph hD hre'
theorem tq_quiet {i : Nat} {l : List Nat} {oi : Oper} {v : Value} (hi : ops[i]? = some oi) (hm : mayO ops i l = true) (hK : Lax K) (hy : YQ P N B ops (fun _ => True) oi v E) (h : TQ P N B ops D past needs K l (putE E oi.dst v) W) : TQ P N B ops D past needs K (i :: l) E W := by
  intro hre
  simp only [mayO, Bool.and_eq_true, Bool.not_eq_true'] at hm
  obtain ⟨⟨⟨⟨e0, hn⟩, hs⟩, hf⟩, hr⟩ := hm
  have e := Nat.le_of_ble_eq_true e0
  simp only [List.length_cons]
  refine sany_later hi (Region.noSelect_spec hs) (lax_to hK) _ _ E W (Region.free_spec hi hf) (by simpa using hr) hy hre ?_
  rw [lstO_cons (by omega) hn]
  have hre' : Real N B (putE E oi.dst v) W := by
    obtain ⟨a, w, ha, hw, hB⟩ := hre
    subst hw
    have h1 := SRun.real hB ha hy.1 (hy.2 a ha w trivial hB)
    obtain ⟨u, w', -, ⟨e1, e2⟩, h3⟩ := h1.some hB
    rw [e1, e2] at h3
    exact h3
  exact h hre'
theorem tp_still {i : Nat} {l : List Nat} {oi : Oper} {v : Value} (hi : ops[i]? = some oi) (hm : mayO ops i l = true) (hK : Lax K) (hy : YQ P N B ops (fun _ => True) oi v E) (h : TP P N B ops D past needs K l (putE E oi.dst v) W) : TP P N B ops D past needs K (i :: l) E W :=
  fun hph hD hre => tq_quiet (needs := needs) hi hm hK hy (fun hr => h hph hD hr) hre
theorem t_single {i : Nat} {l : List Nat} {oi : Oper} {R : Value → World → Prop} (hi : ops[i]? = some oi) (hm : onlyO ops i l = true) (hd : dstOk N oi.dst = true) (hR : ∀ a w, EnvR E N a → cw B w = W → B ≤ w.heap.size → SRun P B ops oi a w R)
    (h : ∀ v W', R v W' → Real N B (putE E oi.dst v) W' → (past i = true ∨ (D W → D W')) ∧ SAny P N B .any ops D past K l.length (lstO ops.size l) (putE E oi.dst v) W') :
    SAny P N B .any ops D past K (i :: l).length (lstO ops.size (i :: l)) E W := by
  unfold onlyO at hm
  simp only [Bool.and_eq_true, Bool.not_eq_true'] at hm
  have e := Nat.le_of_ble_eq_true hm.1.1
  simp only [List.length_cons]
  have hr := eq_of_beq hm.2
  refine ⟨fun h0 => absurd (hr ▸ h0) (by simp), fun j hj => ?_⟩
  rw [hr, List.mem_singleton] at hj
  subst hj
  refine ⟨oi, hi, hd, fun v W' => R v W' ∧ Real N B (putE E oi.dst v) W', fun a w ha hw hB => SRun.real hB ha hd (hR a w ha hw hB), ?_⟩
  rintro v W' ⟨h1, h2⟩ _
  obtain ⟨h3, h4⟩ := h v W' h1 h2
  refine ⟨h3, ?_⟩
  rw [lstO_cons (by omega) hm.1.2]
  exact h4
theorem tp_single {i : Nat} {l : List Nat} {oi : Oper} {R : Value → World → Prop} (hi : ops[i]? = some oi) (hm : onlyO ops i l = true) (hd : dstOk N oi.dst = true) (hR : ∀ a w, EnvR E N a → cw B w = W → B ≤ w.heap.size → SRun P B ops oi a w R)
    (h : ∀ v W', R v W' → D W' ∧ TP P N B ops D past needs K l (putE E oi.dst v) W') : TP P N B ops D past needs K (i :: l) E W :=
  fun hph _ _ => t_single hi hm hd hR fun v W' h1 h2 => ⟨.inr fun _ => (h v W' h1).1, (h v W' h1).2 hph (h v W' h1).1 h2⟩
theorem tq_single {i : Nat} {l : List Nat} {oi : Oper} {R : Value → World → Prop} (hi : ops[i]? = some oi) (hm : (onlyO ops i l && past i) = true) (hd : dstOk N oi.dst = true) (hR : ∀ a w, EnvR E N a → cw B w = W → B ≤ w.heap.size → SRun P B ops oi a w R)
    (h : ∀ v W', R v W' → TQ P N B ops D past needs K l (putE E oi.dst v) W') : TQ P N B ops D past needs K (i :: l) E W := by
  simp only [Bool.and_eq_true] at hm
  exact fun _ => t_single hi hm.1 hd hR fun v W' h1 h2 => ⟨.inl hm.2, h v W' h1 h2⟩
theorem ready_lstO (ops : Array Oper) : Region.ready .any ops (lstO ops.size []) = [] := by
  unfold Region.ready
  rw [List.filter_eq_nil_iff]
  intro i hi
  have : i < ops.size := by simpa using hi
  simp [lstO, this]
theorem tq_done (h : K .normal E W) : TQ P N B ops D past needs K [] E W := fun _ => ⟨ready_lstO _, h⟩
theorem aw_two {id : Nat} (hm : P.follows .mixedOrders = true) (D : World → Prop) (past needs : Nat → Bool) (l : List Nat) (hl : orderB ops.size l = true) (hph : phasedB ops past needs = true) (hD : D W) (h : TP P N B ops D past needs K l E W) : AW P N B (.region id ops true) K E W := by
  refine aw_intro fun a w ha hw hB => wp_region_any hm ?_
  have h1 := h (phasedB_spec hph) hD ⟨a, w, ha, hw, hB⟩
  unfold orderB at hl
  simp only [Bool.and_eq_true] at hl
  rw [eq_of_beq hl.1, Nat.eq_of_beq_eq_true hl.2] at h1
  refine sany_sound _ _ _ _ h1 _ _ ha ?_ hB
  rw [← hw]; rfl
section steps
variable {i : Nat} {rest : List Nat} {d : Nat} {op : Op} {ty : TypeId} {pos : String} {aft : Array Edge} {g : Option (Nat × Bool)}
theorem tp_gives (hK : Lax K) {v : Value} (ho : getL ops.toList i = some ⟨some d, op, ty, pos, aft, g⟩) (hg : guardE ops ⟨some d, op, ty, pos, aft, g⟩ E = some true) (hd : Nat.ble (d + 1) N = true) (hm : (mayO ops i rest && needs i) = true)
    (hy : ∀ W, D W → Gives P N B ⟨some d, op, ty, pos, aft, g⟩ E W v W) (k : TP P N B ops D past needs K rest ((d, v) :: E) W) : TP P N B ops D past needs K (i :: rest) E W :=
  tp_quiet (getL_ok ho) hm hK (yq_gives hd hg hy) k
theorem tp_free (hK : Lax K) {v : Value} (ho : getL ops.toList i = some ⟨some d, op, ty, pos, aft, g⟩) (hg : guardE ops ⟨some d, op, ty, pos, aft, g⟩ E = some true) (hd : Nat.ble (d + 1) N = true) (hm : mayO ops i rest = true)
    (hy : ∀ W, Gives P N B ⟨some d, op, ty, pos, aft, g⟩ E W v W) (k : TP P N B ops D past needs K rest ((d, v) :: E) W) : TP P N B ops D past needs K (i :: rest) E W :=
  tp_still (getL_ok ho) hm hK (yq_gives hd hg fun W _ => hy W) k
theorem tp_pure (hT : TabOk P T) (hK : Lax K) {v : Value} (ho : getL ops.toList i = some ⟨some d, op, ty, pos, aft, g⟩) (hg : guardE ops ⟨some d, op, ty, pos, aft, g⟩ E = some true) (hd : Nat.ble (d + 1) N = true)
    (hv : evP T E ⟨some d, op, ty, pos, aft, g⟩ = some v) (hm : mayO ops i rest = true) (k : TP P N B ops D past needs K rest ((d, v) :: E) W) : TP P N B ops D past needs K (i :: rest) E W := tp_free hK ho hg hd hm (fun _ => gives_evP hT hv) k
theorem tp_arith (hT : TabOk P T) (hK : Lax K) {k' : IntKind} {z : Int} (ho : getL ops.toList i = some ⟨some d, op, ty, pos, aft, g⟩) (hg : guardE ops ⟨some d, op, ty, pos, aft, g⟩ E = some true) (hd : Nat.ble (d + 1) N = true)
    (hv : evA T E ⟨some d, op, ty, pos, aft, g⟩ = some (k', z)) (hr : InR k' z) (hm : mayO ops i rest = true) (k : TP P N B ops D past needs K rest ((d, .int k' z) :: E) W) : TP P N B ops D past needs K (i :: rest) E W :=
  tp_free hK ho hg hd hm (fun _ => gives_evA hT hv) (by rw [wrap_inR hr]; exact k)
theorem tp_load (hT : TabOk P T) (hK : Lax K) {b j : Nat} {l : List Value} {e : TypeId} {v : Value} (ho : getL ops.toList i = some ⟨some d, op, ty, pos, aft, g⟩) (hg : guardE ops ⟨some d, op, ty, pos, aft, g⟩ E = some true) (hd : Nat.ble (d + 1) N = true)
    (hv : evLd T E ⟨some d, op, ty, pos, aft, g⟩ = some ⟨b, j, none⟩) (hb : ∀ W, D W → Blkc W b l e) (hj : l[j]? = some v) (hp : cv (cl v) = cl v) (hm : (mayO ops i rest && needs i) = true) (k : TP P N B ops D past needs K rest ((d, cl v) :: E) W) : TP P N B ops D past needs K (i :: rest) E W :=
  tp_gives hK ho hg hd hm (fun W hD => gives_load hT hv ((hb W hD).cell hj) hp) k
theorem tp_cut (hT : TabOk P T) (hK : Lax K) {a : Option Addr} {n c sz : Nat} {l h : Int} (ho : getL ops.toList i = some ⟨some d, op, ty, pos, aft, g⟩) (hg : guardE ops ⟨some d, op, ty, pos, aft, g⟩ E = some true) (hd : Nat.ble (d + 1) N = true)
    (hv : evCut T E ⟨some d, op, ty, pos, aft, g⟩ = some (.slice a n c, sz, l, h)) (h0 : 0 ≤ l) (h1 : l ≤ h) (h2 : h ≤ c) (hn : n ≤ c) (hm : mayO ops i rest = true) (k : TP P N B ops D past needs K rest ((d, sliced a l.toNat h.toNat c sz) :: E) W) : TP P N B ops D past needs K (i :: rest) E W :=
  tp_free hK ho hg hd hm (fun _ => gives_cut hT hv h0 h1 h2 hn) k
theorem tp_call {f : FuncId} {args : List Value} {R : Value → World → Prop} (ho : getL ops.toList i = some ⟨some d, op, ty, pos, aft, g⟩) (hg : guardE ops ⟨some d, op, ty, pos, aft, g⟩ E = some true) (hd : Nat.ble (d + 1) N = true)
    (hv : evC' E ⟨some d, op, ty, pos, aft, g⟩ = some (f, args)) (hm : onlyO ops i rest = true) (hE : Ent P f) (hc : ACalls P B f args W R) (k : ∀ v W', R v W' → D W' ∧ TP P N B ops D past needs K rest ((d, v) :: E) W') : TP P N B ops D past needs K (i :: rest) E W :=
  tp_single (getL_ok ho) hm hd (srun_call hg hv hE hc) k
theorem tq_pure (hT : TabOk P T) (hK : Lax K) {v : Value} (ho : getL ops.toList i = some ⟨some d, op, ty, pos, aft, g⟩) (hg : guardE ops ⟨some d, op, ty, pos, aft, g⟩ E = some true) (hd : Nat.ble (d + 1) N = true)
    (hv : evP T E ⟨some d, op, ty, pos, aft, g⟩ = some v) (hm : mayO ops i rest = true) (k : TQ P N B ops D past needs K rest ((d, v) :: E) W) : TQ P N B ops D past needs K (i :: rest) E W :=
  tq_quiet (getL_ok ho) hm hK (yq_gives hd hg fun _ _ => gives_evP hT hv) k
theorem tq_store (hT : TabOk P T) {b off n : Nat} {v : Value} {l : List Value} (l' : List Value) {e : TypeId} (ho : getL ops.toList i = some ⟨none, op, ty, pos, aft, g⟩) (hg : guardE ops ⟨none, op, ty, pos, aft, g⟩ E = some true) (hv : evSt T E ⟨none, op, ty, pos, aft, g⟩ = some (b, off, n, v)) (hp : plain v = some v) (hn : v.cells.size = n) (h1 : v.cells.toList.all (·.oneCell') = true) (hm : (onlyO ops i rest && past i) = true)
    (hB : B ≤ b) (hb : Blkc W b l e) (hl : Nat.ble (off + n) l.length = true) (he : l.take off ++ v.cells.toList ++ l.drop (off + v.cells.toList.length) = l')
    (k : ∀ W', Blkc W' b l' e → Same b W W' → TQ P N B ops D past needs K rest E W') : TQ P N B ops D past needs K (i :: rest) E W := by
  subst he
  refine tq_single (getL_ok ho) hm rfl (srun_skips hg (skips_store hT hv hp hn h1 hB hb (by have := Nat.le_of_ble_eq_true hl; simpa using this))) ?_
  rintro v' W' ⟨-, rfl⟩
  rw [splice_list]
  exact k _ hb.set ⟨fun g hne => setRow_other _ _ _ _ hne, by simp [World.setRow], rfl, rfl, rfl⟩
end steps
end
attribute [irreducible] TP TQ
end Go.Proofs.Ytmplincflbhmiaa.Cn
