/- Regions that draw their order: an operation that hands on the same value whenever it comes up may be taken first. -/
import Derived.Test.YtmplincflbhmiaaCn9
import Derived.Orders
import Derived.Still
namespace Go.Proofs.Ytmplincflbhmiaa.Cn
set_option linter.unusedSimpArgs false
set_option linter.unusedVariables false
open Go Go.RowKit

section
variable {P : Program} {N B : Nat} {ops : Array Oper} {md : Region.Mode} {K : Exit → Env → World → Prop} {D : World → Prop} {past needs : Nat → Bool} {E : Env} {W : World}

/-- one operation carried out: R of the value's canonical form and the world behind it -/
def SRun (P : Program) (B : Nat) (ops : Array Oper) (o : Oper) (a : Act) (w : World) (R : Value → World → Prop) : Prop :=
  (Region.wanted o (yielded ops a.tmps) = true ∧
    ((∃ u w', (execOp a.eval o).run P w = .ok (.value u) w' ∧ B ≤ w'.heap.size ∧ R (cv u) (cw B w')) ∨
     (∃ w', (execOp a.eval o).run P w = .ok .skip w' ∧ B ≤ w'.heap.size ∧ R undef (cw B w')) ∨
     (∃ f xs, (execOp a.eval o).run P w = .ok (.enter f xs) w ∧ Calls P f xs w fun e w' => ∃ u, e = .returned u ∧ B ≤ w'.heap.size ∧ R (cv u) (cw B w')))) ∨
  (Region.wanted o (yielded ops a.tmps) = false ∧ R undef (cw B w))
theorem SRun.mono {o : Oper} {a : Act} {w : World} {R R' : Value → World → Prop} (h : SRun P B ops o a w R) (hr : ∀ v W, R v W → R' v W) : SRun P B ops o a w R' := by
  rcases h with ⟨h1, h2⟩ | ⟨h1, h2⟩
  · refine .inl ⟨h1, ?_⟩
    rcases h2 with ⟨u, w', h3, h4, h5⟩ | ⟨w', h3, h4, h5⟩ | ⟨f, xs, h3, h4⟩
    · exact .inl ⟨u, w', h3, h4, hr _ _ h5⟩
    · exact .inr (.inl ⟨w', h3, h4, hr _ _ h5⟩)
    · exact .inr (.inr ⟨f, xs, h3, h4.mono fun _ _ ⟨u, h5, h6, h7⟩ => ⟨u, h5, h6, hr _ _ h7⟩⟩)
  · exact .inr ⟨h1, hr _ _ h2⟩
theorem SRun.same {o : Oper} {a a' : Act} {w : World} {R : Value → World → Prop} (h : SRun P B ops o a w R) (he : execOp a'.eval o = execOp a.eval o)
    (hw : Region.wanted o (yielded ops a'.tmps) = Region.wanted o (yielded ops a.tmps)) : SRun P B ops o a' w R := by
  unfold SRun at *
  rw [he, hw]
  exact h
/-- one operation's step, from what is known -/
def SStep (P : Program) (N B : Nat) (ops : Array Oper) (D : World → Prop) (o : Oper) (E : Env) (W : World) (k : Env → World → Prop) : Prop :=
  dstOk N o.dst = true ∧ ∃ R : Value → World → Prop, (∀ a w, EnvR E N a → cw B w = W → B ≤ w.heap.size → SRun P B ops o a w R) ∧
    ∀ v W', R v W' → cv v = v → D W' ∧ k (putE E o.dst v) W'
/-- an operation of the later part stands behind each one of the earlier part -/
def Phased (md : Region.Mode) (ops : Array Oper) (past needs : Nat → Bool) : Prop := ∀ (j i : Nat) (o : Oper), ops[j]? = some o → past j = true → needs i = true → i < ops.size → ∃ e ∈ o.after, Region.binds md e = true ∧ e.on = i
def SAny (P : Program) (N B : Nat) (md : Region.Mode) (ops : Array Oper) (D : World → Prop) (past : Nat → Bool) (K : Exit → Env → World → Prop) : Nat → Array Bool → Env → World → Prop
  | 0, listed, E, W => Region.ready md ops listed = [] ∧ K .normal E W
  | fuel + 1, listed, E, W => (Region.ready md ops listed = [] → K .normal E W) ∧
      ∀ i ∈ Region.ready md ops listed, ∃ o, ops[i]? = some o ∧ SStep P N B ops (fun W' => past i = true ∨ (D W → D W')) o E W (SAny P N B md ops D past K fuel (listed.setIfInBounds i true))
theorem sany_sound : ∀ (fuel : Nat) (listed : Array Bool) (E : Env) (W : World), SAny P N B md ops D past K fuel listed E W →
    ∀ a w, EnvR E N a → cw B w = W → B ≤ w.heap.size → wpAny P md ops (Post N B K) fuel listed a w
  | 0, _, E, W, h, a, w, ha, hw, hB => ⟨h.1, hB, E, ha, by rw [hw]; exact h.2⟩
  | fuel + 1, listed, E, W, h, a, w, ha, hw, hB => by
    refine ⟨fun h0 => ⟨hB, E, ha, by rw [hw]; exact h.1 h0⟩, fun i hi => ?_⟩
    obtain ⟨o, ho, hd, R, hR, hk⟩ := h.2 i hi
    unfold wpOp
    simp only [ho]
    have hs := hR a w ha hw hB
    have next : ∀ u w', B ≤ w'.heap.size → R (cv u) (cw B w') → wpAny P md ops (Post N B K) fuel (listed.setIfInBounds i true) (a.put o.dst u) w' := fun u w' hB' hr =>
      sany_sound fuel _ _ _ (hk _ _ hr (cv_cv u)).2 _ _ (ha.put hd rfl) rfl hB'
    have hu : cv undef = undef := by simp [undef, cv]
    rcases hs with ⟨h1, h2⟩ | ⟨h1, h2⟩
    · rw [if_pos h1]
      refine .inl ?_
      unfold Oper.wp
      rcases h2 with ⟨u, w', h3, h4, h5⟩ | ⟨w', h3, h4, h5⟩ | ⟨f, xs, h3, h4⟩
      · rw [h3]; exact next u w' h4 h5
      · rw [h3]; exact next undef w' h4 (by rw [hu]; exact h5)
      · rw [h3]
        show Calls P f xs w _
        refine h4.mono ?_
        rintro e w' ⟨u, rfl, h6, h7⟩
        exact next u w' h6 h7
    · rw [if_neg (by simp [h1])]
      exact next undef w hB (by rw [hu]; exact h2)

theorem sany_congr : ∀ (fuel : Nat) (listed : Array Bool) (E E' : Env) (W : World), (∀ t, Env.get E t = Env.get E' t) → (∀ E1 E2 W, (∀ t, Env.get E1 t = Env.get E2 t) → K .normal E1 W → K .normal E2 W) →
    SAny P N B md ops D past K fuel listed E W → SAny P N B md ops D past K fuel listed E' W
  | 0, _, _, _, _, he, hK, h => ⟨h.1, hK _ _ _ he h.2⟩
  | fuel + 1, listed, E, E', W, he, hK, h => by
    refine ⟨fun h0 => hK _ _ _ he (h.1 h0), fun i hi => ?_⟩
    obtain ⟨o, ho, hd, R, hR, hk⟩ := h.2 i hi
    refine ⟨o, ho, hd, R, fun a w ha => hR a w (ha.less fun t v ht => by rw [← he]; exact ht), fun v W' hr hc => ⟨(hk v W' hr hc).1, ?_⟩⟩
    refine sany_congr fuel _ _ _ _ ?_ hK (hk v W' hr hc).2
    intro t
    cases o.dst with
    | none => exact he t
    | some d =>
      simp only [putE, Env.get]
      split
      · rfl
      · exact he t

/-- the value of an operation that hands on the same in every world of D, and leaves the canonical world -/
def YQ (P : Program) (N B : Nat) (ops : Array Oper) (D : World → Prop) (o : Oper) (v : Value) (E : Env) : Prop :=
  dstOk N o.dst = true ∧ ∀ a, EnvR E N a → ∀ w, D (cw B w) → B ≤ w.heap.size → SRun P B ops o a w (fun v' W' => v' = v ∧ W' = cw B w)

/-- some frame and world are as told -/
def Real (N B : Nat) (E : Env) (W : World) : Prop := ∃ a w, EnvR E N a ∧ cw B w = W ∧ B ≤ w.heap.size
theorem Real.canon {E : Env} {W : World} (h : Real N B E W) {t : Nat} {v : Value} (ht : E.get t = some v) : cv v = v := by
  obtain ⟨a, w, ha, -, -⟩ := h
  obtain ⟨u, -, hu⟩ := ha.get t v ht
  rw [← hu, cv_cv]
theorem Calls.someEnd {f : FuncId} {xs : Array Value} {w : World} {R : Ending → World → Prop} (h : Calls P f xs w R) : ∃ e w', R e w' := by
  obtain ⟨e, w', fr, hR, -⟩ := h []
  exact ⟨e, w', hR⟩
theorem SRun.some {o : Oper} {a : Act} {w : World} {R : Value → World → Prop} (hB : B ≤ w.heap.size) (h : SRun P B ops o a w R) : ∃ u w', B ≤ w'.heap.size ∧ R (cv u) (cw B w') := by
  rcases h with ⟨h1, h2⟩ | ⟨h1, h2⟩
  · rcases h2 with ⟨u, w', h3, h4, h5⟩ | ⟨w', h3, h4, h5⟩ | ⟨f, xs, h3, h4⟩
    · exact ⟨u, w', h4, h5⟩
    · exact ⟨undef, w', h4, by rw [show cv undef = undef by simp [undef, cv]]; exact h5⟩
    · obtain ⟨e, w', u, -, h6, h7⟩ := Calls.someEnd h4
      exact ⟨u, w', h6, h7⟩
  · exact ⟨undef, w, hB, by rw [show cv undef = undef by simp [undef, cv]]; exact h2⟩

/-- not looked at: another frame of the same other slots -/
theorem YQ.other {oi oj : Oper} {v v' : Value} (hr : Real N B E W) (hap : oi.apart ops oj = true) (hsi : ∀ cs b, oi.op ≠ .select cs b) (h : YQ P N B ops D oi v E) : YQ P N B ops D oi v (putE E oj.dst v') := by
  obtain ⟨h1, h2, h3⟩ := Oper.apart_spec hap
  refine ⟨h.1, fun a ha w hD hB => ?_⟩
  cases hd : oj.dst with
  | none => rw [hd] at ha; exact h.2 a ha w hD hB
  | some d =>
    rw [hd] at ha
    -- the frame with what the slot held
    have key : ∃ x, EnvR E N (a.put (Option.some d) x) := by
      have gen : ∀ x, (∀ y, E.get d = Option.some y → cv x = y) → EnvR E N (a.put (Option.some d) x) := by
        intro x hx
        refine ⟨ha.defers, by simp [Act.put, ha.size], fun t y hy => ?_⟩
        by_cases ht : d = t
        · subst ht
          obtain ⟨ar, wr, har, -, -⟩ := hr
          obtain ⟨u, hu, -⟩ := har.get d y hy
          have hlt : d < N := by
            have := (Array.getElem?_eq_some_iff.1 hu).1
            rw [har.size] at this; exact this
          refine ⟨x, ?_, hx y hy⟩
          simp only [Act.put, Array.getElem?_setIfInBounds]
          rw [if_pos trivial, if_pos (by rw [ha.size]; exact hlt)]
        · obtain ⟨u, hu, huv⟩ := ha.get t y (by
            simp only [putE, Env.get]
            rw [show Nat.beq d t = false from by
              cases hb : Nat.beq d t
              · rfl
              · exact absurd (Nat.eq_of_beq_eq_true hb) ht]
            exact hy)
          refine ⟨u, ?_, huv⟩
          simp only [Act.put, Array.getElem?_setIfInBounds]
          rw [if_neg ht]
          exact hu
      cases hg : E.get d with
      | none => exact ⟨undef, gen undef (fun y hy => by rw [hg] at hy; cases hy)⟩
      | some y => exact ⟨y, gen y (fun y' hy' => by rw [hg] at hy'; cases hy'; exact hr.canon hg)⟩
    obtain ⟨x, hx⟩ := key
    have hrun := h.2 _ hx w hD hB
    refine hrun.same ?_ ?_
    · exact (execOp_put oi hsi a (Option.some d) x (fun d' hd' => by cases hd'; exact h3 d hd)).symm
    · exact (wanted_put oi a (Option.some d) x (fun d' hd' => by cases hd'; exact h3 d hd)).symm

theorem putE_comm {x y : Option Nat} (E : Env) (v u : Value) (h : ∀ d, x = some d → y ≠ some d) (t : Nat) : Env.get (putE (putE E x v) y u) t = Env.get (putE (putE E y u) x v) t := by
  cases x with
  | none => rfl
  | some d =>
    cases y with
    | none => rfl
    | some e =>
      simp only [putE, Env.get]
      have hne : d ≠ e := fun hde => h d rfl (by rw [hde])
      cases h1 : Nat.beq d t with
      | false => rfl
      | true =>
        cases h2 : Nat.beq e t with
        | false => rfl
        | true => exact absurd ((Nat.eq_of_beq_eq_true h1).trans (Nat.eq_of_beq_eq_true h2).symm) hne

theorem SRun.real {o : Oper} {a : Act} {w : World} {R : Value → World → Prop} (hB : B ≤ w.heap.size) (ha : EnvR E N a) (hd : dstOk N o.dst = true) (h : SRun P B ops o a w R) :
    SRun P B ops o a w (fun v W' => R v W' ∧ Real N B (putE E o.dst v) W') := by
  have hu : cv undef = undef := by simp [undef, cv]
  rcases h with ⟨h1, h2⟩ | ⟨h1, h2⟩
  · refine .inl ⟨h1, ?_⟩
    rcases h2 with ⟨u, w', h3, h4, h5⟩ | ⟨w', h3, h4, h5⟩ | ⟨f, xs, h3, h4⟩
    · exact .inl ⟨u, w', h3, h4, h5, _, w', ha.put hd rfl, rfl, h4⟩
    · exact .inr (.inl ⟨w', h3, h4, h5, _, w', ha.put hd hu, rfl, h4⟩)
    · exact .inr (.inr ⟨f, xs, h3, h4.mono fun _ w' ⟨u, h5, h6, h7⟩ => ⟨u, h5, h6, h7, _, w', ha.put hd rfl, rfl, h6⟩⟩)
  · exact .inr ⟨h1, h2, _, w, ha.put hd hu, rfl, hB⟩

theorem sany_first {i : Nat} {oi : Oper} {v : Value} (hi : ops[i]? = some oi) (hsel : ∀ (j : Nat) (o : Oper) cs b, ops[j]? = some o → o.op ≠ .select cs b)
    (hph : Phased md ops past needs) (hpi : needs i = true) (hK : ∀ E1 E2 W, (∀ t, Env.get E1 t = Env.get E2 t) → K .normal E1 W → K .normal E2 W) :
    ∀ (fuel : Nat) (listed : Array Bool) (E : Env) (W : World),
      (∀ j oj, ops[j]? = some oj → j ≠ i → listed.getD j true = false → (∀ e ∈ oj.after, Region.binds md e = true → e.on ≠ i) → oi.apart ops oj = true) →
      i ∈ Region.ready md ops listed → YQ P N B ops D oi v E → D W → Real N B E W →
      SAny P N B md ops D past K fuel (listed.setIfInBounds i true) (putE E oi.dst v) W → SAny P N B md ops D past K (fuel + 1) listed E W := by
  have own : ∀ (fuel : Nat) (listed : Array Bool) (E : Env) (W : World), YQ P N B ops D oi v E → D W → SAny P N B md ops D past K fuel (listed.setIfInBounds i true) (putE E oi.dst v) W →
      ∃ o, ops[i]? = some o ∧ SStep P N B ops (fun W' => past i = true ∨ (D W → D W')) o E W (SAny P N B md ops D past K fuel (listed.setIfInBounds i true)) := by
    intro fuel listed E W hy hD H
    refine ⟨oi, hi, hy.1, fun v' W' => v' = v ∧ W' = W, fun a w ha hw hB => ?_, ?_⟩
    · subst hw; exact hy.2 a ha w hD hB
    · rintro v' W' ⟨rfl, rfl⟩ _
      exact ⟨.inr id, H⟩
  intro fuel
  induction fuel with
  | zero =>
    intro listed E W _ hr hy hD _ H
    refine ⟨fun h0 => (by rw [h0] at hr; cases hr), fun j hj => ?_⟩
    by_cases hji : j = i
    · subst hji; exact own 0 listed E W hy hD H
    · have := ready_mono hj hji
      rw [H.1] at this
      cases this
  | succ fuel ih =>
    intro listed E W hfree hr hy hD hre H
    refine ⟨fun h0 => (by rw [h0] at hr; cases hr), fun j hj => ?_⟩
    by_cases hji : j = i
    · subst hji; exact own (fuel + 1) listed E W hy hD H
    · obtain ⟨oj, hoj, hdj, R, hR, hk⟩ := H.2 j (ready_mono hj hji)
      obtain ⟨hjun, oj', hoj', hall⟩ := mem_ready.1 hj
      rw [hoj] at hoj'
      cases hoj'
      have hnot : ∀ e ∈ oj.after, Region.binds md e = true → e.on ≠ i := fun e he hb heq => by
        have h1 := hall e he hb
        have h0 := (mem_ready.1 hr).1
        rw [heq] at h1
        rcases Nat.lt_or_ge i listed.size with h' | h'
        · simp [h'] at h0 h1; rw [h0] at h1; cases h1
        · simp [Array.getElem?_eq_none h'] at h1
      have hap := hfree j oj hoj hji hjun hnot
      obtain ⟨a1, a2, a3⟩ := Oper.apart_spec hap
      have hcv : cv v = v := by
        obtain ⟨a, w, ha, hw, hB⟩ := hre
        subst hw
        obtain ⟨u, w', -, e1, -⟩ := (hy.2 a ha w hD hB).some hB
        rw [← e1, cv_cv]
      have hfree' : ∀ k ok, ops[k]? = some ok → k ≠ i → (listed.setIfInBounds j true).getD k true = false →
          (∀ e ∈ ok.after, Region.binds md e = true → e.on ≠ i) → oi.apart ops ok = true := fun k ok hk' hki hun hno => by
        refine hfree k ok hk' hki ?_ hno
        by_cases hjk : j = k
        · subst hjk; exact hjun
        · rw [getD_set_ne true hjk] at hun; exact hun
      refine ⟨oj, hoj, hdj, fun v' W' => R v' W' ∧ Real N B (putE E oj.dst v') W', fun a w ha hw hB => ?_, ?_⟩
      · refine SRun.real hB ha hdj ?_
        have h1 := hR (a.put oi.dst v) w (ha.put hy.1 hcv) hw hB
        exact h1.same (execOp_put oj (fun cs b => hsel j oj cs b hoj) a oi.dst v a1).symm (wanted_put oj a oi.dst v a1).symm
      · rintro v' W' ⟨hr', hre'⟩ hc
        obtain ⟨hD0, H'⟩ := hk v' W' hr' hc
        have hD' : D W' := by
          rcases hD0 with hp | hD'
          · exfalso
            have hlt : i < ops.size := (Array.getElem?_eq_some_iff.1 hi).1
            obtain ⟨e, he, hb, hon⟩ := hph j i oj hoj hp hpi hlt
            exact hnot e he hb hon
          · exact hD' hD
        refine ⟨.inr fun _ => hD', ih (listed.setIfInBounds j true) _ W' hfree' (ready_mono hr (Ne.symm hji)) (hy.other hre hap (fun cs b => hsel i oi cs b hi)) hD' hre' ?_⟩
        rw [Array.setIfInBounds_comm _ _ hji]
        exact sany_congr _ _ _ _ _ (putE_comm E v v' a2) hK H'

theorem sany_later {i : Nat} {oi : Oper} {v : Value} (hi : ops[i]? = some oi) (hsel : ∀ (j : Nat) (o : Oper) cs b, ops[j]? = some o → o.op ≠ .select cs b)
    (hK : ∀ E1 E2 W, (∀ t, Env.get E1 t = Env.get E2 t) → K .normal E1 W → K .normal E2 W) :
    ∀ (fuel : Nat) (listed : Array Bool) (E : Env) (W : World),
      (∀ j oj, ops[j]? = some oj → j ≠ i → listed.getD j true = false → (∀ e ∈ oj.after, Region.binds md e = true → e.on ≠ i) → oi.apart ops oj = true) →
      i ∈ Region.ready md ops listed → YQ P N B ops (fun _ => True) oi v E → Real N B E W →
      SAny P N B md ops D past K fuel (listed.setIfInBounds i true) (putE E oi.dst v) W → SAny P N B md ops D past K (fuel + 1) listed E W := by
  have own : ∀ (fuel : Nat) (listed : Array Bool) (E : Env) (W : World), YQ P N B ops (fun _ => True) oi v E → SAny P N B md ops D past K fuel (listed.setIfInBounds i true) (putE E oi.dst v) W →
      ∃ o, ops[i]? = some o ∧ SStep P N B ops (fun W' => past i = true ∨ (D W → D W')) o E W (SAny P N B md ops D past K fuel (listed.setIfInBounds i true)) := by
    intro fuel listed E W hy H
    refine ⟨oi, hi, hy.1, fun v' W' => v' = v ∧ W' = W, fun a w ha hw hB => ?_, ?_⟩
    · subst hw; exact hy.2 a ha w trivial hB
    · rintro v' W' ⟨rfl, rfl⟩ _
      exact ⟨.inr id, H⟩
  intro fuel
  induction fuel with
  | zero =>
    intro listed E W _ hr hy _ H
    refine ⟨fun h0 => (by rw [h0] at hr; cases hr), fun j hj => ?_⟩
    by_cases hji : j = i
    · subst hji; exact own 0 listed E W hy H
    · have := ready_mono hj hji
      rw [H.1] at this
      cases this
  | succ fuel ih =>
    intro listed E W hfree hr hy hre H
    refine ⟨fun h0 => (by rw [h0] at hr; cases hr), fun j hj => ?_⟩
    by_cases hji : j = i
    · subst hji; exact own (fuel + 1) listed E W hy H
    · obtain ⟨oj, hoj, hdj, R, hR, hk⟩ := H.2 j (ready_mono hj hji)
      obtain ⟨hjun, oj', hoj', hall⟩ := mem_ready.1 hj
      rw [hoj] at hoj'
      cases hoj'
      have hnot : ∀ e ∈ oj.after, Region.binds md e = true → e.on ≠ i := fun e he hb heq => by
        have h1 := hall e he hb
        have h0 := (mem_ready.1 hr).1
        rw [heq] at h1
        rcases Nat.lt_or_ge i listed.size with h' | h'
        · simp [h'] at h0 h1; rw [h0] at h1; cases h1
        · simp [Array.getElem?_eq_none h'] at h1
      have hap := hfree j oj hoj hji hjun hnot
      obtain ⟨a1, a2, a3⟩ := Oper.apart_spec hap
      have hcv : cv v = v := by
        obtain ⟨a, w, ha, hw, hB⟩ := hre
        subst hw
        obtain ⟨u, w', -, e1, -⟩ := (hy.2 a ha w trivial hB).some hB
        rw [← e1, cv_cv]
      have hfree' : ∀ k ok, ops[k]? = some ok → k ≠ i → (listed.setIfInBounds j true).getD k true = false →
          (∀ e ∈ ok.after, Region.binds md e = true → e.on ≠ i) → oi.apart ops ok = true := fun k ok hk' hki hun hno => by
        refine hfree k ok hk' hki ?_ hno
        by_cases hjk : j = k
        · subst hjk; exact hjun
        · rw [getD_set_ne true hjk] at hun; exact hun
      refine ⟨oj, hoj, hdj, fun v' W' => R v' W' ∧ Real N B (putE E oj.dst v') W', fun a w ha hw hB => ?_, ?_⟩
      · refine SRun.real hB ha hdj ?_
        have h1 := hR (a.put oi.dst v) w (ha.put hy.1 hcv) hw hB
        exact h1.same (execOp_put oj (fun cs b => hsel j oj cs b hoj) a oi.dst v a1).symm (wanted_put oj a oi.dst v a1).symm
      · rintro v' W' ⟨hr', hre'⟩ hc
        obtain ⟨hD0, H'⟩ := hk v' W' hr' hc
        refine ⟨hD0, ih (listed.setIfInBounds j true) _ W' hfree' (ready_mono hr (Ne.symm hji)) (hy.other hre hap (fun cs b => hsel i oi cs b hi)) hre' ?_⟩
        rw [Array.setIfInBounds_comm _ _ hji]
        exact sany_congr _ _ _ _ _ (putE_comm E v v' a2) hK H'

/-! ### how it is used -/
/-- from here on, whatever order is picked -/
def SA (P : Program) (N B : Nat) (ops : Array Oper) (D : World → Prop) (K : Exit → Env → World → Prop) (fuel : Nat) (listed : Array Bool) (E : Env) (W : World) : Prop :=
  D W → Real N B E W → SAny P N B .any ops D (fun _ => false) K fuel listed E W
/-- what stands behind takes whatever frame of the same slots -/
def Lax (K : Exit → Env → World → Prop) : Prop := ∀ E1 E2 W, (∀ t, Env.get E1 t = Env.get E2 t) → K .normal E1 W → K .normal E2 W
theorem lax_thn {y : Code} {K : Exit → Env → World → Prop} : Lax (Thn P N B y K) := fun E1 E2 W he h => by
  unfold Thn at *
  exact h.less fun t v ht => by rw [← he]; exact ht
theorem lax_blk {id : Nat} {K : Exit → Env → World → Prop} (h : Lax K) : Lax (Blk id K) := fun E1 E2 W he h1 => by
  unfold Blk at *
  exact h E1 E2 W he h1
theorem lax_rnd {α : Type} {e : α → Env} {w : α → World} {I : α → Prop} {μ : α → Nat} {m : Nat} {K : Exit → Env → World → Prop} : Lax (Rnd e w I μ m K) := fun E1 E2 W he h1 => by
  unfold Rnd at *
  obtain ⟨x, h2, h3, h4, h5⟩ := h1
  exact ⟨x, h2, h3, fun t v ht => by rw [← he]; exact h4 t v ht, h5⟩
theorem sa_first {fuel : Nat} {listed : Array Bool} {i : Nat} {oi : Oper} {v : Value} (hi : ops[i]? = some oi) (hs : Region.noSelect ops = true) (hK : Lax K) (hf : Region.free .any ops listed i = true) (hr : (Region.ready .any ops listed).contains i = true)
    (hy : YQ P N B ops D oi v E) (h : SA P N B ops D K fuel (listed.setIfInBounds i true) (putE E oi.dst v) W) : SA P N B ops D K (fuel + 1) listed E W := by
  intro hD hre
  refine sany_first hi (Region.noSelect_spec hs) (past := fun _ => false) (needs := fun _ => true) (fun _ _ _ _ h => by cases h) rfl hK fuel listed E W (Region.free_spec hi hf) (by simpa using hr) hy hD hre (h hD ?_)
  obtain ⟨a, w, ha, hw, hB⟩ := hre
  subst hw
  have h1 := SRun.real hB ha hy.1 (hy.2 a ha w hD hB)
  obtain ⟨u, w', -, ⟨e1, e2⟩, h3⟩ := h1.some hB
  rw [e1, e2] at h3
  exact h3
theorem sa_done {listed : Array Bool} (hr : Region.ready .any ops listed = []) (h : D W → K .normal E W) : ∀ fuel, SA P N B ops D K fuel listed E W
  | 0 => fun hD _ => ⟨hr, h hD⟩
  | _ + 1 => fun hD _ => ⟨fun _ => h hD, by rw [hr]; simp⟩
/-- all that may come up now, each one carried out -/
theorem sa_all {fuel : Nat} {listed : Array Bool} {rs : List Nat} (hr : Region.ready .any ops listed = rs) (hne : rs ≠ [])
    (h : ∀ i ∈ rs, ∃ o, ops[i]? = some o ∧ dstOk N o.dst = true ∧ ∃ R : Value → World → Prop, (∀ a w, EnvR E N a → cw B w = W → B ≤ w.heap.size → SRun P B ops o a w R) ∧
      ∀ v W', R v W' → D W' ∧ SA P N B ops D K fuel (listed.setIfInBounds i true) (putE E o.dst v) W') : SA P N B ops D K (fuel + 1) listed E W := by
  intro hD hre
  refine ⟨fun h0 => absurd (hr ▸ h0) hne, fun i hi => ?_⟩
  rw [hr] at hi
  obtain ⟨o, ho, hd, R, hR, hk⟩ := h i hi
  refine ⟨o, ho, hd, fun v W' => R v W' ∧ Real N B (putE E o.dst v) W', fun a w ha hw hB => SRun.real hB ha hd (hR a w ha hw hB), ?_⟩
  rintro v W' ⟨h1, h2⟩ _
  obtain ⟨h3, h4⟩ := hk v W' h1
  exact ⟨.inr fun _ => h3, h4 h3 h2⟩
theorem aw_draw {id : Nat} (hm : P.follows .mixedOrders = true) (D : World → Prop) (hD : D W) (h : SA P N B ops D K ops.size (Array.replicate ops.size false) E W) : AW P N B (.region id ops true) K E W := by
  refine aw_intro fun a w ha hw hB => wp_region_any hm ?_
  refine sany_sound _ _ _ _ (h hD ⟨a, w, ha, hw, hB⟩) _ _ ha ?_ hB
  rw [← hw]; rfl

/-! ### a region that only reads: one walk, in the order of the text -/
def AQ (P : Program) (N B : Nat) (ops : Array Oper) (W : World) (Q : Env → Prop) : List Nat → Env → Prop
  | [], E => Q E
  | i :: rest, E => ∃ o v, ops[i]? = some o ∧ YQ P N B ops (· = W) o v E ∧ AQ P N B ops W Q rest (putE E o.dst v)
theorem sa_lex (hs : Region.noSelect ops = true) (hK : Lax K) : ∀ (n k : Nat) (listed : Array Bool) (E : Env), k + n = ops.size → Region.lexFrom .any ops n k listed = true → AQ P N B ops W (fun E' => K .normal E' W) (upFrom n k) E →
    SA P N B ops (· = W) K n listed E W
  | 0, k, listed, E, _, hB, h => sa_done (by simpa [Region.lexFrom] using hB) (fun _ => h) 0
  | n + 1, k, listed, E, hkn, hB, h => by
    simp only [Region.lexFrom, Bool.and_eq_true] at hB
    obtain ⟨⟨hr, hf⟩, hB'⟩ := hB
    obtain ⟨o, v, ho, hy, hq⟩ := h
    exact sa_first ho hs hK hf hr hy (sa_lex hs hK n (k + 1) _ _ (by omega) hB' hq)
theorem aw_quiet {id : Nat} (hm : P.follows .mixedOrders = true) (hK : Lax K) (hB : Region.lexB .any ops = true) (h : AQ P N B ops W (fun E' => K .normal E' W) (upFrom ops.size 0) E) : AW P N B (.region id ops true) K E W := by
  simp only [Region.lexB, Bool.and_eq_true] at hB
  exact aw_draw hm (· = W) rfl (sa_lex hB.1 hK ops.size 0 _ E (by omega) hB.2 h)
theorem yq_gives {D : World → Prop} {o : Oper} {v : Value} (hd : dstOk N o.dst = true) (hg : guardE ops o E = some true) (hy : ∀ W, D W → Gives P N B o E W v W) : YQ P N B ops D o v E := by
  refine ⟨hd, fun a ha w hD hB => ?_⟩
  obtain ⟨u, w', h1, h2, h3, h4⟩ := hy _ hD a w ha rfl hB
  exact .inl ⟨guardE_sound ha hg, .inl ⟨u, w', h1, h2, h3, h4⟩⟩
theorem yq_pass {D : World → Prop} {o : Oper} (hd : dstOk N o.dst = true) (hg : guardE ops o E = some false) : YQ P N B ops D o undef E :=
  ⟨hd, fun _ ha _ _ _ => .inr ⟨guardE_sound ha hg, rfl, rfl⟩⟩
theorem evC'_run {o : Oper} {f : FuncId} {args : List Value} (hv : evC' E o = some (f, args)) {a : Act} (ha : EnvR E N a) : ∃ xs : Array Value, xs.toList.map cv = args ∧ ∀ r w, (callFunc f xs).run P w = r → (execOp a.eval o).run P w = r := by
  unfold evC' at hv
  split at hv
  · rename_i fx as ts hop
    split at hv
    · rename_i f' first caps hfx
      split at hv
      · rename_i hfirst
        split at hv
        · rename_i l hl
          split at hv
          · rename_i cs hcs
            cases hv
            have e1 := cv_func (ev_sound ha hfx)
            have e2 := evs_sound ha as.toList l hl
            have e3 : first = #[] := by apply Array.toList_inj.1; rw [hfirst]
            obtain ⟨e4, e5⟩ := ptrs_self _ _ hcs
            subst e3
            refine ⟨as.map a.eval ++ caps, by rw [Array.toList_append, List.map_append, Array.toList_map, e2, e4, e5], fun r w hr => ?_⟩
            simp only [execOp, hop, resolve, Deferred.ofValue, e1, invoke]
            simp only [Sem.run_bind, Sem.run_pure, Result.andThen_ok, Array.empty_append]
            exact hr
          · cases hv
        · cases hv
      · cases hv
    · cases hv
  · cases hv
theorem yq_call {D : World → Prop} {o : Oper} {f : FuncId} {args : List Value} {v : Value} (hd : dstOk N o.dst = true) (hg : guardE ops o E = some true) (hv : evC' E o = some (f, args)) (hE : Ent P f)
    (hc : ∀ W, D W → ACalls P B f args W (fun v' W' => v' = v ∧ W' = W)) : YQ P N B ops D o v E := by
  refine ⟨hd, fun a ha w hD hB => ?_⟩
  obtain ⟨xs, hx, hr⟩ := evC'_run (P := P) hv ha
  exact .inl ⟨guardE_sound ha hg, .inr (.inr ⟨f, xs, hr _ _ (hE xs w), acalls_elim (hc _ hD) xs w hx rfl hB⟩)⟩
/-- an effect: a call -/
theorem srun_call {o : Oper} {f : FuncId} {args : List Value} {R : Value → World → Prop} (hg : guardE ops o E = some true) (hv : evC' E o = some (f, args)) (hE : Ent P f) (hc : ACalls P B f args W R) :
    ∀ a w, EnvR E N a → cw B w = W → B ≤ w.heap.size → SRun P B ops o a w R := by
  intro a w ha hw hB
  obtain ⟨xs, hx, hr⟩ := evC'_run (P := P) hv ha
  exact .inl ⟨guardE_sound ha hg, .inr (.inr ⟨f, xs, hr _ _ (hE xs w), acalls_elim hc xs w hx hw hB⟩)⟩
/-- an effect: a value, with a world -/
theorem srun_yields {o : Oper} {R : Value → World → Prop} (hg : guardE ops o E = some true) (hy : Go.Proofs.Ytmplincflbhmiaa.Cn.Yields P N B o E W R) :
    ∀ a w, EnvR E N a → cw B w = W → B ≤ w.heap.size → SRun P B ops o a w R := by
  intro a w ha hw hB
  obtain ⟨u, w', h1, h2, h3⟩ := hy a w ha hw hB
  exact .inl ⟨guardE_sound ha hg, .inl ⟨u, w', h1, h2, h3⟩⟩
theorem aq_nil {Q : Env → Prop} (h : Q E) : AQ P N B ops W Q [] E := h
section steps
variable {Q : Env → Prop} {T : Tab} {i : Nat} {rest : List Nat} {d : Nat} {op : Op} {ty : TypeId} {pos : String} {aft : Array Edge} {g : Option (Nat × Bool)}
theorem q_gives {v : Value} (ho : getL ops.toList i = some ⟨some d, op, ty, pos, aft, g⟩) (hg : guardE ops ⟨some d, op, ty, pos, aft, g⟩ E = some true) (hd : Nat.ble (d + 1) N = true)
    (hy : Gives P N B ⟨some d, op, ty, pos, aft, g⟩ E W v W) (k : AQ P N B ops W Q rest ((d, v) :: E)) : AQ P N B ops W Q (i :: rest) E :=
  ⟨_, v, getL_ok ho, yq_gives hd hg (fun W' e => by subst e; exact hy), k⟩
theorem q_pure (hT : TabOk P T) {v : Value} (ho : getL ops.toList i = some ⟨some d, op, ty, pos, aft, g⟩) (hg : guardE ops ⟨some d, op, ty, pos, aft, g⟩ E = some true) (hd : Nat.ble (d + 1) N = true)
    (hv : evP T E ⟨some d, op, ty, pos, aft, g⟩ = some v) (k : AQ P N B ops W Q rest ((d, v) :: E)) : AQ P N B ops W Q (i :: rest) E := q_gives ho hg hd (gives_evP hT hv) k
theorem q_len (hT : TabOk P T) {v : Value} (ho : getL ops.toList i = some ⟨some d, op, ty, pos, aft, g⟩) (hg : guardE ops ⟨some d, op, ty, pos, aft, g⟩ E = some true) (hd : Nat.ble (d + 1) N = true)
    (hv : evL T E ⟨some d, op, ty, pos, aft, g⟩ = some v) (k : AQ P N B ops W Q rest ((d, v) :: E)) : AQ P N B ops W Q (i :: rest) E := q_gives ho hg hd (gives_evL hT hv) k
theorem q_arith (hT : TabOk P T) {k' : IntKind} {z : Int} (ho : getL ops.toList i = some ⟨some d, op, ty, pos, aft, g⟩) (hg : guardE ops ⟨some d, op, ty, pos, aft, g⟩ E = some true) (hd : Nat.ble (d + 1) N = true)
    (hv : evA T E ⟨some d, op, ty, pos, aft, g⟩ = some (k', z)) (hr : InR k' z) (k : AQ P N B ops W Q rest ((d, .int k' z) :: E)) : AQ P N B ops W Q (i :: rest) E :=
  q_gives ho hg hd (gives_evA hT hv) (by rw [wrap_inR hr]; exact k)
theorem q_index (hT : TabOk P T) {b off n sz : Nat} {ix : Int} (ho : getL ops.toList i = some ⟨some d, op, ty, pos, aft, g⟩) (hg : guardE ops ⟨some d, op, ty, pos, aft, g⟩ E = some true) (hd : Nat.ble (d + 1) N = true)
    (hv : evI T E ⟨some d, op, ty, pos, aft, g⟩ = some (b, off, n, ix, sz)) (h0 : 0 ≤ ix) (h1 : ix < n) (k : AQ P N B ops W Q rest ((d, .pointer (some ⟨b, off + ix.toNat * sz, none⟩)) :: E)) : AQ P N B ops W Q (i :: rest) E :=
  q_gives ho hg hd (gives_index hT hv h0 h1) k
theorem q_index1 (hT : TabOk P T) {b off n : Nat} {ix : Int} (ho : getL ops.toList i = some ⟨some d, op, ty, pos, aft, g⟩) (hg : guardE ops ⟨some d, op, ty, pos, aft, g⟩ E = some true) (hd : Nat.ble (d + 1) N = true)
    (hv : evI T E ⟨some d, op, ty, pos, aft, g⟩ = some (b, off, n, ix, 1)) (h0 : 0 ≤ ix) (h1 : ix < n) (k : AQ P N B ops W Q rest ((d, .pointer (some ⟨b, off + ix.toNat, none⟩)) :: E)) : AQ P N B ops W Q (i :: rest) E :=
  q_index hT ho hg hd hv h0 h1 (by rw [Nat.mul_one]; exact k)
theorem q_byte (hT : TabOk P T) {s : ByteArray} {ix : Int} (ho : getL ops.toList i = some ⟨some d, op, ty, pos, aft, g⟩) (hg : guardE ops ⟨some d, op, ty, pos, aft, g⟩ E = some true) (hd : Nat.ble (d + 1) N = true)
    (hv : evX T E ⟨some d, op, ty, pos, aft, g⟩ = some (s, ix)) (h0 : 0 ≤ ix) (h1 : ix < s.size) (k : AQ P N B ops W Q rest ((d, .int .u8 (bt s ix.toNat)) :: E)) : AQ P N B ops W Q (i :: rest) E :=
  q_gives ho hg hd (gives_byte hT hv h0 h1) k
theorem q_load (hT : TabOk P T) {a : Addr} {v : Value} (ho : getL ops.toList i = some ⟨some d, op, ty, pos, aft, g⟩) (hg : guardE ops ⟨some d, op, ty, pos, aft, g⟩ E = some true) (hd : Nat.ble (d + 1) N = true)
    (hv : evLd T E ⟨some d, op, ty, pos, aft, g⟩ = some a) (hc : W.cell? a = some v) (hp : cv (cl v) = cl v) (k : AQ P N B ops W Q rest ((d, cl v) :: E)) : AQ P N B ops W Q (i :: rest) E :=
  q_gives ho hg hd (gives_load hT hv hc hp) k
theorem q_loadf (hT : TabOk P T) {a : Addr} {fk : FloatKind} {x : Nat} (ho : getL ops.toList i = some ⟨some d, op, ty, pos, aft, g⟩) (hg : guardE ops ⟨some d, op, ty, pos, aft, g⟩ E = some true) (hd : Nat.ble (d + 1) N = true)
    (hv : evLd T E ⟨some d, op, ty, pos, aft, g⟩ = some a) (hc : ∃ y, W.cell? a = some (.float fk y) ∧ cb fk y = x) (k : AQ P N B ops W Q rest ((d, .float fk x) :: E)) : AQ P N B ops W Q (i :: rest) E := by
  obtain ⟨y, h1, rfl⟩ := hc
  exact q_load hT ho hg hd hv h1 (by simp [cl, cv, c1, cb_cb]) (by simpa [cl] using k)
theorem q_call {f : FuncId} {args : List Value} {v : Value} (ho : getL ops.toList i = some ⟨some d, op, ty, pos, aft, g⟩) (hg : guardE ops ⟨some d, op, ty, pos, aft, g⟩ E = some true) (hd : Nat.ble (d + 1) N = true)
    (hv : evC' E ⟨some d, op, ty, pos, aft, g⟩ = some (f, args)) (hE : Ent P f) (hc : ACalls P B f args W (fun v' W' => v' = v ∧ W' = W)) (k : AQ P N B ops W Q rest ((d, v) :: E)) : AQ P N B ops W Q (i :: rest) E :=
  ⟨_, v, getL_ok ho, yq_call hd hg hv hE (fun W' e => by subst e; exact hc), k⟩
theorem q_pass (ho : getL ops.toList i = some ⟨some d, op, ty, pos, aft, g⟩) (hg : guardE ops ⟨some d, op, ty, pos, aft, g⟩ E = some false) (hd : Nat.ble (d + 1) N = true) (k : AQ P N B ops W Q rest ((d, undef) :: E)) : AQ P N B ops W Q (i :: rest) E :=
  ⟨_, undef, getL_ok ho, yq_pass hd hg, k⟩
end steps
end
theorem lax_to {K : Exit → Env → World → Prop} (h : Lax K) : ∀ E1 E2 W, (∀ t, Env.get E1 t = Env.get E2 t) → K .normal E1 W → K .normal E2 W := h
theorem lax_mk {K : Exit → Env → World → Prop} (h : ∀ E1 E2 W, (∀ t, Env.get E1 t = Env.get E2 t) → K .normal E1 W → K .normal E2 W) : Lax K := h
/-- 'the continuation does not look at dropped temporaries', found by its form -/
class LaxC (K : Exit → Env → World → Prop) : Prop where
  out : Lax K
theorem lx {K : Exit → Env → World → Prop} [h : LaxC K] : Lax K := h.out
instance lxThn {P : Program} {N B : Nat} {y : Code} {K : Exit → Env → World → Prop} : LaxC (Thn P N B y K) := ⟨lax_thn⟩
instance lxBlk {id : Nat} {K : Exit → Env → World → Prop} [h : LaxC K] : LaxC (Blk id K) := ⟨lax_blk h.out⟩
instance lxRnd {α : Type} {e : α → Env} {w : α → World} {I : α → Prop} {μ : α → Nat} {m : Nat} {K : Exit → Env → World → Prop} : LaxC (Rnd e w I μ m K) := ⟨lax_rnd⟩
attribute [irreducible] AQ SA Lax
end Go.Proofs.Ytmplincflbhmiaa.Cn
