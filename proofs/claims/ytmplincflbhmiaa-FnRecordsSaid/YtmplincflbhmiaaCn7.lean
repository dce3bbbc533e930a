/- A function as a whole. -/
import Derived.Test.YtmplincflbhmiaaCn6
namespace Go.Proofs.Ytmplincflbhmiaa.Cn
set_option linter.unusedSimpArgs false
set_option linter.unusedVariables false
open Go Go.RowKit

section
variable {P : Program} {N B : Nat} {E : Env} {W : World}

def enumE : Nat → List Value → Env
  | _, [] => []
  | i, v :: r => (i, v) :: enumE (i + 1) r
theorem enumE_get : ∀ (l : List Value) (i t : Nat) (v : Value), Env.get (enumE i l) t = some v → i ≤ t ∧ l[t - i]? = some v := by
  intro l
  induction l with
  | nil => intro i t v h; cases h
  | cons x l ih =>
    intro i t v h
    simp only [enumE, Env.get] at h
    cases hb : Nat.beq i t with
    | true =>
      rw [hb] at h
      have := Nat.eq_of_beq_eq_true hb
      subst this
      cases h
      simp
    | false =>
      rw [hb] at h
      have hne := Nat.ne_of_beq_eq_false hb
      obtain ⟨h1, h2⟩ := ih (i + 1) t v h
      refine ⟨by omega, ?_⟩
      rw [show t - i = (t - (i + 1)) + 1 by omega]
      simpa using h2

/-- the results, told -/
def RV (T : Tab) (E : Env) (W : World) : List ResultVar → List Value → Prop
  | [], vs => vs = []
  | .tmp t :: r, vs => ∃ v vs', vs = v :: vs' ∧ E.get t = some v ∧ plain v = some v ∧ RV T E W r vs'
  | .cell t ty :: r, vs => ∃ tt b off l vs', vs = .agg (l.map cl).toArray :: vs' ∧ E.get t = some (.pointer (some ⟨b, off, none⟩)) ∧ T.at ty = some tt ∧ isAggD tt.d = true ∧ l.length = tt.size ∧ Cells W b off l ∧ RV T E W r vs'
theorem rv_nil {T : Tab} : RV T E W [] [] := rfl
theorem rv_tmp {T : Tab} {t : Nat} {v : Value} {r : List ResultVar} {vs : List Value} (h1 : E.get t = some v) (h2 : plain v = some v) (h : RV T E W r vs) : RV T E W (.tmp t :: r) (v :: vs) :=
  ⟨v, vs, rfl, h1, h2, h⟩
theorem rv_cell {T : Tab} {t : Nat} {ty : TypeId} {tt : TT} {b off : Nat} {l : List Value} {r : List ResultVar} {vs : List Value} (h1 : E.get t = some (.pointer (some ⟨b, off, none⟩))) (h2 : T.at ty = some tt) (h3 : isAggD tt.d = true)
    (h4 : l.length = tt.size) (h5 : Cells W b off l) (h : RV T E W r vs) : RV T E W (.cell t ty :: r) (.agg (l.map cl).toArray :: vs) :=
  ⟨tt, b, off, l, vs, rfl, h1, h2, h3, h4, h5, h⟩
def retV : List Value → Value
  | [v] => v
  | vs => .tuple vs.toArray
theorem c1_of_plain {u v : Value} (h : cv u = v) (hp : plain v = some v) : c1 u = v := by
  subst h
  cases u <;> simp [cv, plain] at hp ⊢

def retOf (a : Act) : ResultVar → Sem Value
  | .tmp t => pure (a.tmps.getD t undef)
  | .cell x ty => do loadVar ty (← asAddr (a.tmps.getD x undef))
theorem rv_run {T : Tab} (hT : TabOk P T) {a : Act} {w : World} (ha : EnvR E N a) (hw : cw B w = W) : ∀ (rs : List ResultVar) (vs : List Value), RV T E W rs vs →
    ∃ us : List Value, (rs.mapM (retOf a)).run P w = .ok us w ∧ us.map c1 = vs ∧ us.map cv = vs := by
  intro rs
  induction rs with
  | nil => intro vs h; exact ⟨[], rfl, h.symm, h.symm⟩
  | cons r rs ih =>
    intro vs h
    cases r with
    | tmp t =>
      obtain ⟨v, vs', rfl, hv, hp, hr⟩ := h
      obtain ⟨us, h1, h2, h3⟩ := ih vs' hr
      obtain ⟨u, hu1, hu2⟩ := ha.get t v hv
      refine ⟨u :: us, ?_, by simp [h2, c1_of_plain hu2 hp], by simp [h3, hu2]⟩
      simp [List.mapM_cons, retOf, Array.getD_eq_getD_getElem?, hu1, h1]
    | cell t ty =>
      obtain ⟨tt, b, off, l, vs', rfl, hv, ht, hag, hl, hc, hr⟩ := h
      obtain ⟨us, h1, h2, h3⟩ := ih vs' hr
      obtain ⟨u, hu1, hu2⟩ := ha.get t _ hv
      have hu3 := cv_pointer hu2
      subst hu3
      obtain ⟨hu, ii, hi, hs, -⟩ := hT _ _ ht
      obtain ⟨ls, h4, h5, h6⟩ := cells_back hw l b off hc
      have h7 := run_isAgg (P := P) hu w
      have h8 := run_loadCells_list (P := P) (w := w) ⟨b, off, none⟩ ls (fun j u hj => by rw [Addr.add_lit]; exact h6 j u hj)
      refine ⟨.agg ls.toArray :: us, ?_, by simp [h2, c1, h5], by simp [h3, cv, c1, h5]⟩
      simp [List.mapM_cons, retOf, Array.getD_eq_getD_getElem?, hu1, asAddr, loadVar, h7, hag, sizeOf, typeInfo, hi, hs, ← hl, ← h4, h8, h1]

theorem retK_of {T : Tab} (hT : TabOk P T) {fn : Func} {R : Value → World → Prop} {rs : List ResultVar} {vs : List Value} (hrs : fn.results.toList = rs) (h : RV T E W rs vs) (hR : R (retV vs) W) :
    ∀ a w, EnvR E N a → cw B w = W → ∃ u, (results fn a.tmps).run P w = .ok u w ∧ R (cv u) W := by
  intro a w ha hw
  obtain ⟨us, h1, h2, h3⟩ := rv_run hT ha hw rs vs h
  have hm : (fn.results.mapM (retOf a)).run P w = .ok us.toArray w := by
    rw [Array.mapM_eq_mapM_toList, hrs]
    simp [h1]
  have he : results fn a.tmps = (do let vs ← fn.results.mapM (retOf a); pure (if h : vs.size = 1 then vs[0] else .tuple vs)) := rfl
  refine ⟨if h : us.toArray.size = 1 then us.toArray[0] else .tuple us.toArray, ?_, ?_⟩
  · rw [he]; simp only [Sem.run_bind, hm, Result.andThen_ok, Sem.run_pure]
  · have hl : us.length = vs.length := by rw [← h3]; simp
    match us, vs, hl, h2, h3, hR with
    | [], [], _, _, _, hR => simpa [retV, cv] using hR
    | [u], [v], _, _, h3, hR =>
      simp at h3
      simpa [retV, h3] using hR
    | u1 :: u2 :: us, v1 :: v2 :: vs, _, h2, _, hR =>
      simp only [List.size_toArray, List.length_cons]
      rw [dif_neg (by omega)]
      simp only [cv, List.map_toArray, h2]
      exact hR
theorem retK_ret {T : Tab} (hT : TabOk P T) {fn : Func} {R : Value → World → Prop} {rs : List ResultVar} {vs : List Value} (hrs : fn.results.toList = rs) (h : RV T E W rs vs) (hR : R (retV vs) W) : RetK P N B fn R .ret E W :=
  retK_is_ret (retK_of hT hrs h hR)
theorem retK_normal {T : Tab} (hT : TabOk P T) {fn : Func} {R : Value → World → Prop} {rs : List ResultVar} {vs : List Value} (hrs : fn.results.toList = rs) (h : RV T E W rs vs) (hR : R (retV vs) W) : RetK P N B fn R .normal E W :=
  retK_is_normal (retK_of hT hrs h hR)

theorem acalls_of {f : FuncId} {fn : Func} {c : Code} {args : List Value} {R : Value → World → Prop} (hf : P.funcs[f]? = some fn) (hb : fn.body = some c) (hN : fn.ntmps = N) (hlen : args.length ≤ N)
    (h : AW P N B c (RetK P N B fn R) (enumE 0 args) W) : ACalls P B f args W R := by
  refine acalls_intro ?_
  intro xs w hx hw hB
  have hxs : xs.size = args.length := by rw [← hx]; simp
  refine calls_of_wp hf hb ?_
  have ha : EnvR (enumE 0 args) N { tmps := xs ++ Array.replicate (fn.ntmps - xs.size) undef, defers := [] } := by
    refine ⟨rfl, by simp; omega, ?_⟩
    intro t v ht
    obtain ⟨-, h2⟩ := enumE_get args 0 t v ht
    simp only [Nat.sub_zero] at h2
    rw [← hx] at h2
    simp only [List.getElem?_map] at h2
    cases hu : xs.toList[t]? with
    | none => rw [hu] at h2; cases h2
    | some u =>
      rw [hu] at h2
      have hlt : t < xs.size := by
        have := (List.getElem?_eq_some_iff.1 hu).1
        simpa using this
      refine ⟨u, ?_, Option.some.inj h2⟩
      rw [Array.getElem?_append_left hlt]
      simpa using hu
  refine wp_mono (aw_elim h _ w ha hw hB) ?_
  intro e a' w' hk
  exact post_body hk fun u hB' hR => ⟨u, rfl, hB', hR⟩
/-- the numbers of a region's operations -/
def upFrom : Nat → Nat → List Nat
  | 0, _ => []
  | k + 1, i => i :: upFrom k (i + 1)
theorem upFrom_eq : ∀ (k i : Nat), upFrom k i = List.range' i k
  | 0, _ => rfl
  | k + 1, i => by rw [upFrom, upFrom_eq k (i + 1)]; rfl
theorem aw_reg {ops : Array Oper} {K : Exit → Env → World → Prop} {id : Nat} (h : AOps P N B ops (upFrom ops.size 0) K E W) : AW P N B (.region id ops false) K E W :=
  aw_region (by rw [List.range_eq_range', ← upFrom_eq]; exact h)
/-- a frame known by its list: slot by slot -/
theorem less_nil : ∀ t v, Env.get [] t = some v → E.get t = some v := fun _ _ h => by cases h
theorem less_cons {E' : Env} {k : Nat} {v : Value} (h1 : E.get k = some v) (h2 : ∀ t u, Env.get E' t = some u → E.get t = some u) : ∀ t u, Env.get ((k, v) :: E') t = some u → E.get t = some u := by
  intro t u h
  simp only [Env.get] at h
  cases hb : Nat.beq k t with
  | true => rw [hb] at h; have := Nat.eq_of_beq_eq_true hb; subst this; rw [h1]; exact h
  | false => rw [hb] at h; exact h2 t u h
end
end Go.Proofs.Ytmplincflbhmiaa.Cn
