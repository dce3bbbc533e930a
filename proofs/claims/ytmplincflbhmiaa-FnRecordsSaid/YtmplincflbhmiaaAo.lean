/- Regions that draw their order, every order at once: what each operation leaves stays as it is, whatever comes between. -/
import Derived.Test.YtmplincflbhmiaaCn16
namespace Go.Proofs.Ytmplincflbhmiaa.Cn
set_option linter.unusedSimpArgs false
set_option linter.unusedVariables false
open Go Go.RowKit
/-- what an operation leans on -/
def WithD (Q : Nat → Value → World → Prop) (W : World) : List (Nat × Nat) → Env → (Env → Prop) → Prop
  | [], E, p => p E
  | (j, d) :: js, E, p => ∀ v, Q j v W → WithD Q W js ((d, v) :: E) p
def depsB (ops : Array Oper) (i : Nat) (js : List (Nat × Nat)) : Bool :=
  js.all fun q => match ops[i]? with
    | some o => (o.after.toList.any fun e => Nat.beq e.on q.1 && Region.binds .any e) && (match ops[q.1]? with
      | some o' => o'.dst == some q.2
      | none => false)
    | none => false
/-- each operation writes a place of its own, and waits only for earlier ones -/
def soundB (ops : Array Oper) (E0 : Env) : Bool :=
  (List.range ops.size).all fun i => match ops[i]? with
    | some o => (match o.dst with
      | some d => (E0.get d).isNone && (List.range ops.size).all fun j => Nat.beq j i || (match ops[j]? with
        | some o' => !(o'.dst == some d)
        | none => true)
      | none => true) && o.after.all fun e => Nat.ble (e.on + 1) i
    | none => true
section
variable {P : Program} {N B : Nat} {ops : Array Oper} {K : Exit → Env → World → Prop} {D : World → Prop} {S : World → World → Prop} {Q : Nat → Value → World → Prop} {E0 E : Env} {W : World}
def OpAny (P : Program) (N B : Nat) (ops : Array Oper) (D : World → Prop) (S : World → World → Prop) (Q : Nat → Value → World → Prop) (E0 : Env) (i : Nat) : Prop :=
  ∃ o d, ops[i]? = some o ∧ o.dst = some d ∧ dstOk N o.dst = true ∧ ∃ js : List (Nat × Nat), depsB ops i js = true ∧ ∀ W, D W → WithD Q W js E0 (fun E1 => ∃ R : Value → World → Prop, (∀ a w, EnvR E1 N a → cw B w = W → B ≤ w.heap.size → SRun P B ops o a w R) ∧ ∀ v W', R v W' → D W' ∧ S W W' ∧ Q i v W')
theorem lstO_eq {n : Nat} {l l' : List Nat} (h : ∀ j, j ∈ l ↔ j ∈ l') : lstO n l = lstO n l' := by
  unfold lstO
  congr 1
  apply List.map_congr_left
  intro j _
  have := h j
  by_cases hj : j ∈ l
  · have h2 := this.1 hj
    simp [hj, h2]
  · have h2 : ¬ j ∈ l' := fun h3 => hj (this.2 h3)
    simp [hj, h2]
theorem lstO_no {n i : Nat} {l : List Nat} (h : (lstO n l).getD i true = false) : i < n ∧ i ∈ l := by
  simp only [lstO, Array.getD_eq_getD_getElem?, List.getElem?_toArray, List.getElem?_map] at h
  by_cases hi : i < n
  · simp [hi] at h; exact ⟨hi, h⟩
  · simp [hi] at h
theorem lstO_yes {n i : Nat} {l : List Nat} (h : (lstO n l).getD i false = true) : i < n ∧ ¬ i ∈ l := by
  simp only [lstO, Array.getD_eq_getD_getElem?, List.getElem?_toArray, List.getElem?_map] at h
  by_cases hi : i < n
  · simp [hi] at h; exact ⟨hi, h⟩
  · simp [hi] at h
theorem lstO_no' {n i : Nat} {l : List Nat} (hi : i < n) (h : i ∈ l) : (lstO n l).getD i true = false := by
  simp [lstO, Array.getD_eq_getD_getElem?, List.getElem?_toArray, List.getElem?_map, hi, h]
theorem lstO_yes' {n i : Nat} {l : List Nat} (hi : i < n) (h : ¬ i ∈ l) : (lstO n l).getD i false = true := by
  simp [lstO, Array.getD_eq_getD_getElem?, List.getElem?_toArray, List.getElem?_map, hi, h]
theorem get_same {d : Nat} {v : Value} : Env.get ((d, v) :: E) d = some v := by
  simp [Env.get]
theorem get_other {d t : Nat} {v : Value} (h : d ≠ t) : Env.get ((d, v) :: E) t = E.get t := by
  have : Nat.beq d t = false := by
    cases hq : Nat.beq d t
    · rfl
    · exact absurd (Nat.eq_of_beq_eq_true hq) h
  simp [Env.get, this]
theorem withD_spec : ∀ {js : List (Nat × Nat)} {E1 : Env} {p : Env → Prop}, WithD Q W js E1 p → (∀ q ∈ js, ∃ v, E.get q.2 = some v ∧ Q q.1 v W) → (∀ t v, E1.get t = some v → E.get t = some v) → ∃ E2, (∀ t v, E2.get t = some v → E.get t = some v) ∧ p E2
  | [], E1, p, h, _, hs => ⟨E1, hs, h⟩
  | (j, d) :: js, E1, p, h, hq, hs => by
    obtain ⟨v, h1, h2⟩ := hq (j, d) (List.mem_cons_self ..)
    refine withD_spec (h v h2) (fun q hm => hq q (List.mem_cons_of_mem _ hm)) ?_
    intro t u ht
    by_cases e : d = t
    · subst e
      rw [get_same] at ht
      rw [h1]; exact ht
    · rw [get_other e] at ht
      exact hs t u ht
theorem least : ∀ (l : List Nat), l ≠ [] → ∃ i ∈ l, ∀ j ∈ l, i ≤ j
  | [], h => absurd rfl h
  | [a], _ => ⟨a, List.mem_cons_self .., fun j hj => by simp at hj; omega⟩
  | a :: b :: l, _ => by
    obtain ⟨i, h1, h2⟩ := least (b :: l) (by simp)
    by_cases h : a ≤ i
    · refine ⟨a, List.mem_cons_self .., fun j hj => ?_⟩
      rcases List.mem_cons.1 hj with rfl | hj
      · exact Nat.le_refl _
      · exact Nat.le_trans h (h2 j hj)
    · refine ⟨i, List.mem_cons_of_mem _ h1, fun j hj => ?_⟩
      rcases List.mem_cons.1 hj with rfl | hj
      · omega
      · exact h2 j hj
theorem sound_dst (h : soundB ops E0 = true) {i j : Nat} {o o' : Oper} {d d' : Nat} (ho : ops[i]? = some o) (hd : o.dst = some d) (ho' : ops[j]? = some o') (hd' : o'.dst = some d') (hij : j ≠ i) : d' ≠ d := by
  have hi : i < ops.size := (Array.getElem?_eq_some_iff.1 ho).1
  have hj : j < ops.size := (Array.getElem?_eq_some_iff.1 ho').1
  unfold soundB at h
  have h1 := List.all_eq_true.1 h i (List.mem_range.2 hi)
  simp only [ho, hd, Bool.and_eq_true] at h1
  have h2 := List.all_eq_true.1 h1.1.2 j (List.mem_range.2 hj)
  simp only [ho', hd', Bool.or_eq_true, Bool.not_eq_true'] at h2
  rintro rfl
  rcases h2 with h2 | h2
  · exact hij (Nat.eq_of_beq_eq_true h2)
  · simp at h2
theorem sound_env (h : soundB ops E0 = true) {i : Nat} {o : Oper} {d : Nat} (ho : ops[i]? = some o) (hd : o.dst = some d) : E0.get d = none := by
  have hi : i < ops.size := (Array.getElem?_eq_some_iff.1 ho).1
  unfold soundB at h
  have h1 := List.all_eq_true.1 h i (List.mem_range.2 hi)
  simp only [ho, hd, Bool.and_eq_true] at h1
  simpa using h1.1.1
theorem sound_on (h : soundB ops E0 = true) {i : Nat} {o : Oper} (ho : ops[i]? = some o) : ∀ e ∈ o.after, e.on < i := by
  have hi : i < ops.size := (Array.getElem?_eq_some_iff.1 ho).1
  unfold soundB at h
  have h1 := List.all_eq_true.1 h i (List.mem_range.2 hi)
  simp only [ho, Bool.and_eq_true] at h1
  intro e he
  have := Array.all_eq_true_iff_forall_mem.1 h1.2 e he
  have := Nat.le_of_ble_eq_true this
  omega
theorem so_any (hb : soundB ops E0 = true) (hS : ∀ i v W W', S W W' → Q i v W → Q i v W') (hop : ∀ i, i < ops.size → OpAny P N B ops D S Q E0 i)
    (hend : ∀ E W, D W → (∀ t v, E0.get t = some v → E.get t = some v) → (∀ j o d, ops[j]? = some o → o.dst = some d → ∃ v, E.get d = some v ∧ Q j v W) → K .normal E W) :
    ∀ (m : Nat) (l : List Nat), l.length = m → l.Nodup → (∀ j ∈ l, j < ops.size) → ∀ E W, D W → (∀ t v, E0.get t = some v → E.get t = some v) → (∀ j o d, ¬ j ∈ l → ops[j]? = some o → o.dst = some d → ∃ v, E.get d = some v ∧ Q j v W) → SA P N B ops D K m (lstO ops.size l) E W := by
  intro m
  induction m with
  | zero =>
    intro l hl _ _ E W hD hE hQ
    have hnil : l = [] := List.length_eq_zero_iff.1 hl
    subst hnil
    exact sa_done (ready_lstO _) (fun hD => hend E W hD hE fun j o d => hQ j o d (by simp)) _
  | succ m ih =>
    intro l hl hnd hlt E W hD hE hQ
    have hne : Region.ready .any ops (lstO ops.size l) ≠ [] := by
      obtain ⟨i, h1, h2⟩ := least l (by rintro rfl; simp at hl)
      have hi := hlt i h1
      have hm : i ∈ Region.ready .any ops (lstO ops.size l) := mem_ready.2 ⟨lstO_no' hi h1, ops[i], Array.getElem?_eq_getElem hi, fun e he _ => by
        have h3 := sound_on hb (Array.getElem?_eq_getElem hi) e he
        exact lstO_yes' (by omega) fun h4 => by have := h2 _ h4; omega⟩
      intro h0
      rw [h0] at hm
      cases hm
    refine sa_all rfl hne fun i hi => ?_
    obtain ⟨h1, o1, ho1, h2⟩ := mem_ready.1 hi
    obtain ⟨hin, hil⟩ := lstO_no h1
    obtain ⟨o, d, ho, hd, hdo, js, hjs, hw⟩ := hop i hin
    have : o1 = o := by rw [ho] at ho1; exact (Option.some.inj ho1).symm
    subst this
    have hdeps : ∀ q ∈ js, ∃ v, E.get q.2 = some v ∧ Q q.1 v W := by
      intro q hq
      unfold depsB at hjs
      have h3 := List.all_eq_true.1 hjs q hq
      simp only [ho, Bool.and_eq_true, List.any_eq_true, Array.mem_toList_iff] at h3
      obtain ⟨⟨e, he, h4⟩, h5⟩ := h3
      have e1 := Nat.eq_of_beq_eq_true h4.1
      obtain ⟨-, h6⟩ := lstO_yes (h2 e he h4.2)
      rw [e1] at h6
      cases ho' : ops[q.1]? with
      | none => rw [ho'] at h5; cases h5
      | some o' =>
        rw [ho'] at h5
        exact hQ q.1 o' q.2 h6 ho' (by simpa using h5)
    obtain ⟨E2, hE2, R, hR, hk⟩ := withD_spec (hw W hD) hdeps hE
    refine ⟨o1, ho, hdo, R, fun a w ha hw hB => hR a w (ha.less hE2) hw hB, fun v W' hv => ?_⟩
    obtain ⟨hD', hS', hQ'⟩ := hk v W' hv
    refine ⟨hD', ?_⟩
    have hp := List.perm_cons_erase hil
    have hset : (lstO ops.size l).setIfInBounds i true = lstO ops.size (l.erase i) := by
      rw [lstO_eq (l := l) (l' := i :: l.erase i) (fun j => hp.mem_iff)]
      exact lstO_cons hin (by simpa using fun h => (List.Nodup.mem_erase_iff hnd).1 h |>.1 rfl)
    rw [hset]
    refine ih (l.erase i) (by rw [List.length_erase_of_mem hil, hl]; rfl) (hnd.erase i) (fun j hj => hlt j (List.mem_of_mem_erase hj)) _ W' hD' ?_ ?_
    · intro t u ht
      rw [hd]
      have hne : d ≠ t := by
        rintro rfl
        rw [sound_env hb ho hd] at ht
        cases ht
      show Env.get ((d, v) :: E) t = some u
      rw [get_other hne]
      exact hE t u ht
    · intro j oj dj hj hoj hdj
      rw [hd]
      by_cases hji : j = i
      · subst hji
        have : oj = o1 := by rw [ho] at hoj; exact (Option.some.inj hoj).symm
        subst this
        rw [hd] at hdj
        cases hdj
        exact ⟨v, get_same, hQ'⟩
      · have hjl : ¬ j ∈ l := fun h => hj ((List.mem_erase_of_ne hji).2 h)
        obtain ⟨u, h3, h4⟩ := hQ j oj dj hjl hoj hdj
        have hne : d ≠ dj := Ne.symm (sound_dst hb ho hd hoj hdj hji)
        exact ⟨u, by show Env.get ((d, v) :: E) dj = some u; rw [get_other hne]; exact h3, hS j u W W' hS' h4⟩
/-- a drawn region, every order at once -/
theorem aw_any {id : Nat} (hm : P.follows .mixedOrders = true) (D : World → Prop) (S : World → World → Prop) (Q : Nat → Value → World → Prop) (E0 : Env) (hE : ∀ t v, E0.get t = some v → E.get t = some v) (hb : soundB ops E0 = true) (hD : D W) (hS : ∀ i v W W', S W W' → Q i v W → Q i v W')
    (hop : ∀ i, i < ops.size → OpAny P N B ops D S Q E0 i)
    (hend : ∀ E W, D W → (∀ t v, E0.get t = some v → E.get t = some v) → (∀ j o d, ops[j]? = some o → o.dst = some d → ∃ v, E.get d = some v ∧ Q j v W) → K .normal E W) : AW P N B (.region id ops true) K E W := by
  refine aw_draw hm D hD ?_
  have h := so_any hb hS hop hend ops.size (List.range ops.size) (List.length_range ..) List.nodup_range (fun j hj => List.mem_range.1 hj) E W hD hE (fun j o d hj hoj _ => absurd (List.mem_range.2 (Array.getElem?_eq_some_iff.1 hoj).1) hj)
  have e : lstO ops.size (List.range ops.size) = Array.replicate ops.size false := by
    apply Array.ext_getElem?
    intro k
    by_cases hk : k < ops.size
    · simp [lstO, hk]
    · simp [lstO, hk]
  rw [← e]
  exact h
end
end Go.Proofs.Ytmplincflbhmiaa.Cn
