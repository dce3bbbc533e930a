/- Operations that touch no memory: one function that tells their value, and that it tells it. -/
import Derived.Test.YtmplincflbhmiaaCn2
namespace Go.Proofs.Ytmplincflbhmiaa.Cn
set_option linter.unusedSimpArgs false
set_option linter.unusedVariables false
open Go Go.RowKit

/-! ### the table of types -/
structure TT where
  d : TypeDesc
  size : Nat
  bytes : Nat
  zero : Value
abbrev Tab := List (Nat × TT)
def Tab.at : Tab → Nat → Option TT
  | [], _ => none
  | (k, v) :: r, t => match Nat.beq k t with
    | true => some v
    | false => Tab.at r t
def TabOk (P : Program) (T : Tab) : Prop := ∀ t x, T.at t = some x → P.underlying t = some x.d ∧ ∃ i, P.info? t = some i ∧ i.size = x.size ∧ i.bytes = x.bytes ∧ i.zero = some x.zero
theorem tabOk_nil (P : Program) : TabOk P [] := fun _ _ h => by cases h
theorem tabOk_cons {P : Program} {k : Nat} {v : TT} {T : Tab} (h1 : P.underlying k = some v.d) (h2 : (P.info? k).map (fun i => (i.size, i.bytes, i.zero)) = some (v.size, v.bytes, some v.zero)) (h : TabOk P T) : TabOk P ((k, v) :: T) := by
  intro t x hx
  simp only [Tab.at] at hx
  cases hk : Nat.beq k t with
  | true =>
    rw [hk] at hx
    have := Nat.eq_of_beq_eq_true hk
    subst this
    cases hx
    refine ⟨h1, ?_⟩
    cases hi : P.info? k with
    | none => rw [hi] at h2; cases h2
    | some i => rw [hi] at h2; simp at h2; exact ⟨i, rfl, h2.1, h2.2.1, h2.2.2⟩
  | false => rw [hk] at hx; exact h t x hx

section
variable {P : Program} {N B : Nat} {E : Env} {W : World}

theorem run_v {s : Sem Value} {w w' : World} {u : Value} (h : s.run P w = .ok u w') : (do pure (Next.value (← s)) : Sem Next).run P w = .ok (.value u) w' := by
  simp [h]

/-- the operation's value off a run that leaves the canonical world as it is -/
theorem gives_of {o : Oper} {v : Value} (h : ∀ a w, EnvR E N a → cw B w = W → B ≤ w.heap.size → ∃ u w', (execOp a.eval o).run P w = .ok (.value u) w' ∧ cv u = v ∧ cw B w' = cw B w) : Gives P N B o E W v W := by
  intro a w ha hw hB
  obtain ⟨u, w', h1, h2, h3⟩ := h a w ha hw hB
  have hs : w'.heap.size = w.heap.size := by rw [← cw_size B w', h3, cw_size]
  exact ⟨u, w', h1, by omega, h2, h3.trans hw⟩

/-! ### floats -/
theorem cut_bits (k : FloatKind) (x y t : Nat) : cb k ((Question.nanBits k x y).cut t) = qnan k := by
  cases k
  · exact cb_nan (cut_nan32 t)
  · exact cb_nan (cut_nan64 t)
theorem cut_conv (k : FloatKind) (x t : Nat) : cb k ((Question.nanConv k x).cut t) = qnan k := by
  cases k
  · exact cb_nan (cut_nan32 t)
  · exact cb_nan (cut_nan64 t)
theorem cut_minmax (k : FloatKind) (m : Bool) (x y t : Nat) : cb k ((Question.nanMinMax k m x y).cut t) = qnan k := by
  cases k
  · exact cb_nan (cut_nan32 t)
  · exact cb_nan (cut_nan64 t)

def isArith : BinOp → Bool
  | .add | .sub | .mul | .quo => true
  | _ => false
theorem run_farith (op : BinOp) (h : isArith op = true) (k : FloatKind) (x y : Nat) (w : World) :
    ∃ r w', (Op.floatArith op k x y).run P w = .ok (.float k r) w' ∧ cb k r = fop op k x y ∧ (w' = w ∨ w' = w.drew) := by
  cases hb : floatBits op k x y with
  | some r =>
    refine ⟨r, w, ?_, (fop_some hb).symm, .inl rfl⟩
    unfold floatBits at hb
    cases op <;> simp [isArith] at h <;> simp [Op.floatArith, hb]
  | none =>
    refine ⟨(Question.nanBits k x y).cut (w.tape w.drawn (.nanBits k x y)), w.drew, ?_, by rw [fop_none hb]; exact cut_bits k x y _, .inr rfl⟩
    unfold floatBits at hb
    cases op <;> simp [isArith] at h <;> simp only at hb <;> simp [Op.floatArith, hb, Question.forced]
def isCmp : BinOp → Bool
  | .eql | .neq | .lss | .leq | .gtr | .geq => true
  | _ => false
theorem run_fcmp (op : BinOp) (h : isCmp op = true) (k : FloatKind) (x y : Nat) (w : World) : (Op.floatCmp op k x y).run P w = .ok (.bool (fcmp op k x y)) w := by
  cases op <;> simp [isCmp] at h <;> simp [Op.floatCmp, fcmp]

theorem run_fconv {s k : FloatKind} {x r : Nat} (h : fconv s k x = some r) (w : World) : ∃ b w', (Conv.floatToFloat s x k).run P w = .ok (.float k b) w' ∧ cb k b = r ∧ (w' = w ∨ w' = w.drew) := by
  unfold fconv at h
  unfold Conv.floatToFloat
  by_cases e : s = k
  · rw [if_pos e] at h ⊢
    exact ⟨x, w, rfl, by simpa using h, .inl rfl⟩
  · rw [if_neg e] at h ⊢
    split at h
    · rename_i hd
      refine ⟨(Question.nanConv k x).cut (w.tape w.drawn (.nanConv k x)), w.drew, by simp [hd, Question.forced], by rw [cut_conv]; simpa using h, .inr rfl⟩
    · rename_i sg hd
      exact ⟨k.encode (.infinity sg), w, by simp [hd], by simpa using h, .inl rfl⟩
    · rename_i sg m e' hd
      split at h
      · cases h
      · rename_i hi
        exact ⟨k.encode (.number sg m e'), w, by simp [hd, hi], by simpa using h, .inl rfl⟩

/-! ### two operands -/
def kEq : IntKind → IntKind → Bool
  | .i8, .i8 | .i16, .i16 | .i32, .i32 | .i64, .i64 | .u8, .u8 | .u16, .u16 | .u32, .u32 | .u64, .u64 => true
  | _, _ => false
theorem kEq_eq {k k' : IntKind} (h : kEq k k' = true) : k = k' := by cases k <;> cases k' <;> simp_all [kEq]
def fkEq : FloatKind → FloatKind → Bool
  | .f32, .f32 | .f64, .f64 => true
  | _, _ => false
theorem fkEq_eq {k k' : FloatKind} (h : fkEq k k' = true) : k = k' := by cases k <;> cases k' <;> simp_all [fkEq]

def isBool : Option TT → Bool
  | some ⟨.bool, _, _, _⟩ => true
  | _ => false
def binV (T : Tab) (op : BinOp) (t : TypeId) : Value → Value → Option Value
  | .int k a, .int k' b => match kEq k k' with
    | true => match op with
      | .eql => some (.bool (a == b))
      | .neq => some (.bool (a != b))
      | .lss => some (.bool (decide (a < b)))
      | .leq => some (.bool (decide (a ≤ b)))
      | .gtr => some (.bool (decide (a > b)))
      | .geq => some (.bool (decide (a ≥ b)))
      | _ => none
    | false => none
  | .float k a, .float k' b => match fkEq k k' with
    | true => match isArith op with
      | true => some (.float k (fop op k a b))
      | false => match isCmp op with
        | true => some (.bool (fcmp op k a b))
        | false => none
    | false => none
  | .string a, .string b => match op with
    | .eql => some (.bool (a.toList == b.toList))
    | .neq => some (.bool (!(a.toList == b.toList)))
    | .lss => some (.bool (Op.bytesLess a.toList b.toList))
    | _ => none
  | .bool a, .bool b => match isBool (T.at t) with
    | true => match op with
      | .eql => some (.bool (a == b))
      | .neq => some (.bool (!(a == b)))
      | _ => none
    | false => none
  | _, _ => none

theorem run_equal_bool {t : TypeId} (h : P.underlying t = some .bool) (a b : Bool) (w : World) : (Op.equal t (.bool a) (.bool b)).run P w = .ok (a == b) w := by
  show (Op.equalIn (9999 + 1) t (.bool a) (.bool b)).run P w = _
  unfold Op.equalIn
  simp [run_underlying h]

theorem gives_bin {T : Tab} (hT : TabOk P T) {o : Oper} {op : BinOp} {t yt : TypeId} {x y : Operand} {u v r : Value} (ho : o.op = .binOp op t x y yt) (hx : ev E x = some u) (hy : ev E y = some v)
    (hb : binV T op t u v = some r) : Gives P N B o E W r W := by
  refine gives_of fun a w ha hw hB => ?_
  have h1 := ev_sound ha hx
  have h2 := ev_sound ha hy
  simp only [execOp, ho]
  generalize a.eval x = p at *
  generalize a.eval y = q at *
  cases u with
  | int k n =>
    cases v with
    | int k' m =>
      have e1 := cv_int h1
      have e2 := cv_int h2
      subst e1; subst e2
      simp only [binV] at hb
      cases hk : kEq k k' with
      | false => rw [hk] at hb; cases hb
      | true =>
        rw [hk] at hb
        have := kEq_eq hk
        subst this
        cases op <;> simp only at hb <;> first | cases hb | skip
        all_goals exact ⟨_, w, run_v (by simp [eqGuard_at_int, binOp, Op.intCmp]; rfl), by simp [cv, c1, cl], rfl⟩
    | _ => simp [binV] at hb
  | float k n =>
    cases v with
    | float k' m =>
      obtain ⟨p1, e1, f1⟩ := cv_float h1
      obtain ⟨q1, e2, f2⟩ := cv_float h2
      subst e1; subst e2
      simp only [binV] at hb
      cases hk : fkEq k k' with
      | false => rw [hk] at hb; cases hb
      | true =>
        rw [hk] at hb
        have := fkEq_eq hk
        subst this
        cases ha : isArith op with
        | true =>
          rw [ha] at hb
          simp only at hb
          obtain ⟨b, w', hr, hc, hw'⟩ := run_farith (P := P) op ha k p1 q1 w
          refine ⟨.float k b, w', run_v ?_, ?_, ?_⟩
          · cases op <;> simp [isArith] at ha <;> simp [eqGuard, binOp, hr]
          · rw [← Option.some.inj hb, ← f1, ← f2, fop_canon, ← hc]; rfl
          · rcases hw' with rfl | rfl
            · rfl
            · rfl
        | false =>
          rw [ha] at hb
          simp only at hb
          cases hcmp : isCmp op with
          | false => rw [hcmp] at hb; cases hb
          | true =>
            rw [hcmp] at hb
            have hr := run_fcmp (P := P) op hcmp k p1 q1 w
            refine ⟨.bool (fcmp op k p1 q1), w, run_v ?_, ?_, rfl⟩
            · cases op <;> simp [isCmp] at hcmp <;> simp [eqGuard, binOp, hr]
            · rw [← Option.some.inj hb, ← f1, ← f2, fcmp_canon]; rfl
    | _ => simp [binV] at hb
  | string s =>
    cases v with
    | string s' =>
      have e1 := cv_string h1
      have e2 := cv_string h2
      subst e1; subst e2
      simp only [binV] at hb
      cases op <;> simp only at hb <;> first | cases hb | skip
      all_goals exact ⟨_, w, run_v (by simp [eqGuard_at_string, binOp, Op.stringOp]; rfl), by simp [cv, c1, cl], rfl⟩
    | _ => simp [binV] at hb
  | bool s =>
    cases v with
    | bool s' =>
      have e1 := cv_bool h1
      have e2 := cv_bool h2
      subst e1; subst e2
      simp only [binV] at hb
      cases hk : T.at t with
      | none => rw [hk] at hb; simp [isBool] at hb
      | some tt =>
        rw [hk] at hb
        obtain ⟨hu, -⟩ := hT t tt hk
        obtain ⟨d, sz, by_, z⟩ := tt
        cases d <;> simp [isBool] at hb
        have hr := run_equal_bool (P := P) hu s s' w
        cases op <;> simp only at hb <;> first | cases hb | skip
        all_goals exact ⟨_, w, run_v (by simp [eqGuard_at_bool, binOp, hr]; rfl), by simp [cv, c1, cl], rfl⟩
    | _ => simp [binV] at hb
  | _ => cases v <;> simp [binV] at hb
end
end Go.Proofs.Ytmplincflbhmiaa.Cn
