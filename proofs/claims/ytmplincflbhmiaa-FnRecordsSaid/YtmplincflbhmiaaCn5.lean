/- Whole numbers with bounds, lengths, indexes, slices cut, calls, and a function as a whole. -/
import Derived.Test.YtmplincflbhmiaaCn4
namespace Go.Proofs.Ytmplincflbhmiaa.Cn
set_option linter.unusedSimpArgs false
set_option linter.unusedVariables false
open Go Go.RowKit

/-! ### whole numbers -/
abbrev InR : IntKind → Int → Prop
  | .i8, z => -128 ≤ z ∧ z ≤ 127
  | .i16, z => -32768 ≤ z ∧ z ≤ 32767
  | .i32, z => -2147483648 ≤ z ∧ z ≤ 2147483647
  | .i64, z => -9223372036854775808 ≤ z ∧ z ≤ 9223372036854775807
  | .u8, z => 0 ≤ z ∧ z ≤ 255
  | .u16, z => 0 ≤ z ∧ z ≤ 65535
  | .u32, z => 0 ≤ z ∧ z ≤ 4294967295
  | .u64, z => 0 ≤ z ∧ z ≤ 18446744073709551615
theorem wrap_inR {k : IntKind} {z : Int} (h : InR k z) : k.wrap z = z := by
  cases k <;> simp only [InR] at h <;> simp only [IntKind.wrap, IntKind.bits, IntKind.signed] <;> simp <;> omega

/-- a whole number that an operation makes, before it is wrapped -/
def evA (T : Tab) (E : Env) (o : Oper) : Option (IntKind × Int) :=
  match o.op with
  | .binOp op _ x y _ => match ev E x with
    | some (.int k a) => match ev E y with
      | some (.int k' b) => match kEq k k' with
        | true => match op with
          | .add => some (k, a + b)
          | .sub => some (k, a - b)
          | .mul => some (k, a * b)
          | _ => none
        | false => none
      | _ => none
    | _ => none
  | .unOp op _ x => match op with
    | .neg => match ev E x with
      | some (.int k a) => some (k, 0 - a)
      | _ => none
    | _ => none
  | .convert s d x => match T.at s with
    | some _ => match T.at d with
      | some ⟨.int k, _, _, _⟩ => match ev E x with
        | some (.int _ n) => some (k, n)
        | _ => none
      | _ => none
    | none => none
  | _ => none

section
variable {P : Program} {N B : Nat} {E : Env} {W : World} {ops : Array Oper} {K : Exit → Env → World → Prop}

theorem gives_evA {T : Tab} (hT : TabOk P T) {o : Oper} {k : IntKind} {z : Int} (h : evA T E o = some (k, z)) : Gives P N B o E W (.int k (k.wrap z)) W := by
  unfold evA at h
  split at h
  · rename_i op t x y yt ho
    refine gives_of fun a w ha hw hB => ?_
    split at h
    · rename_i k1 n hx
      split at h
      · rename_i k2 m hy
        have e1 := cv_int (ev_sound ha hx)
        have e2 := cv_int (ev_sound ha hy)
        cases hk : kEq k1 k2 with
        | false => rw [hk] at h; cases h
        | true =>
          rw [hk] at h
          have := kEq_eq hk
          subst this
          cases op <;> simp only at h <;> first | cases h | skip
          all_goals exact ⟨_, w, by simp only [execOp, ho, e1, e2]; exact run_v (by simp [eqGuard_at_int, binOp, Op.intArith]; rfl), rfl, rfl⟩
      · cases h
    · cases h
  · rename_i op t x ho
    refine gives_of fun a w ha hw hB => ?_
    split at h
    · split at h
      · rename_i k1 n hx
        have e1 := cv_int (ev_sound ha hx)
        cases h
        exact ⟨_, w, by simp only [execOp, ho, e1]; exact run_v (by simp [Op.unary, Op.intArith]; rfl), by simp [cv, c1, cl], rfl⟩
      · cases h
    · cases h
  · rename_i s d x ho
    split at h
    · rename_i ts hs
      obtain ⟨hus, -⟩ := hT _ _ hs
      split at h
      · rename_i k1 sz by_ z1 hd
        obtain ⟨hud, -⟩ := hT _ _ hd
        simp only at hud
        refine gives_of fun a w ha hw hB => ?_
        split at h
        · rename_i k2 n hx
          have e1 := cv_int (ev_sound ha hx)
          cases h
          refine ⟨.int k (k.wrap z), w, ?_, rfl, rfl⟩
          simp only [execOp, ho, e1]
          refine run_v ?_
          simp [convert, run_underlying hus, run_underlying hud]
          generalize ts.d = dd at *
          cases dd <;> simp [Conv.intToInt]
        · cases h
      · cases h
    · cases h
  · cases h

theorem aops_arith {T : Tab} (hT : TabOk P T) {i : Nat} {rest : List Nat} {o : Oper} {k : IntKind} {z : Int} (ho : ops[i]? = some o) (hg : guardE ops o E = some true) (hd : dstOk N o.dst = true)
    (hv : evA T E o = some (k, z)) (hr : InR k z) (h : AOps P N B ops rest K (putE E o.dst (.int k z)) W) : AOps P N B ops (i :: rest) K E W :=
  aops_gives ho hg hd (gives_evA hT hv) (by rw [wrap_inR hr]; exact h)
theorem aops_wrap {T : Tab} (hT : TabOk P T) {i : Nat} {rest : List Nat} {o : Oper} {k : IntKind} {z : Int} (ho : ops[i]? = some o) (hg : guardE ops o E = some true) (hd : dstOk N o.dst = true)
    (hv : evA T E o = some (k, z)) (h : AOps P N B ops rest K (putE E o.dst (.int k (k.wrap z))) W) : AOps P N B ops (i :: rest) K E W :=
  aops_gives ho hg hd (gives_evA hT hv) h

/-- '/' and '%' of what is not negative -/
def evD (E : Env) (o : Oper) : Option (BinOp × IntKind × Int × Int) :=
  match o.op with
  | .binOp op _ x y _ => match ev E x with
    | some (.int k a) => match ev E y with
      | some (.int k' b) => match kEq k k' with
        | true => some (op, k, a, b)
        | false => none
      | _ => none
    | _ => none
  | _ => none
theorem evD_run {o : Oper} {op : BinOp} {k : IntKind} {n m : Int} (h : evD E o = some (op, k, n, m)) {a : Act} (ha : EnvR E N a) (w : World) {u : Value}
    (hr : (binOp op (match o.op with | .binOp _ t _ _ _ => t | _ => 0) (.int k n) (.int k m)).run P w = .ok u w) : (execOp a.eval o).run P w = .ok (.value u) w := by
  unfold evD at h
  split at h
  · rename_i op' t x y yt ho
    split at h
    · rename_i k1 n1 hx
      split at h
      · rename_i k2 m1 hy
        cases hk : kEq k1 k2 with
        | false => rw [hk] at h; cases h
        | true =>
          rw [hk] at h
          have := kEq_eq hk
          subst this
          cases h
          have e1 := cv_int (ev_sound ha hx)
          have e2 := cv_int (ev_sound ha hy)
          simp only [ho] at hr
          simp only [execOp, ho, e1, e2]
          exact run_v (by simp [eqGuard_at_int, hr])
      · cases h
    · cases h
  · cases h
theorem aops_div {i : Nat} {rest : List Nat} {o : Oper} {k : IntKind} {n m : Int} (ho : ops[i]? = some o) (hg : guardE ops o E = some true) (hd : dstOk N o.dst = true)
    (hv : evD E o = some (.quo, k, n, m)) (h0 : 0 ≤ n) (h1 : 1 ≤ m) (hr : InR k n) (h : AOps P N B ops rest K (putE E o.dst (.int k (n / m))) W) : AOps P N B ops (i :: rest) K E W := by
  refine aops_gives ho hg hd (gives_of fun a w ha hw hB => ⟨.int k (n / m), w, evD_run hv ha w ?_, rfl, rfl⟩) h
  have e : n.tdiv m = n / m := Int.tdiv_eq_ediv_of_nonneg h0
  have hd1 : n / m ≤ n := Int.ediv_le_self m h0
  have hd2 : 0 ≤ n / m := Int.ediv_nonneg h0 (by omega)
  have hw : k.wrap (n / m) = n / m := wrap_inR (by cases k <;> simp only [InR] at hr ⊢ <;> omega)
  simp [binOp, Op.intDiv, e, hw, show m ≠ 0 by omega]
theorem aops_rem {i : Nat} {rest : List Nat} {o : Oper} {k : IntKind} {n m : Int} (ho : ops[i]? = some o) (hg : guardE ops o E = some true) (hd : dstOk N o.dst = true)
    (hv : evD E o = some (.rem, k, n, m)) (h0 : 0 ≤ n) (h1 : 1 ≤ m) (h : AOps P N B ops rest K (putE E o.dst (.int k (n % m))) W) : AOps P N B ops (i :: rest) K E W := by
  refine aops_gives ho hg hd (gives_of fun a w ha hw hB => ⟨.int k (n % m), w, evD_run hv ha w ?_, rfl, rfl⟩) h
  have e : n.tmod m = n % m := Int.tmod_eq_emod_of_nonneg h0
  simp [binOp, Op.intDiv, e, show m ≠ 0 by omega]
/-- whatever the signs -/
theorem aops_tdiv {i : Nat} {rest : List Nat} {o : Oper} {k : IntKind} {n m : Int} (ho : ops[i]? = some o) (hg : guardE ops o E = some true) (hd : dstOk N o.dst = true)
    (hv : evD E o = some (.quo, k, n, m)) (h1 : m ≠ 0) (h : AOps P N B ops rest K (putE E o.dst (.int k (k.wrap (n.tdiv m)))) W) : AOps P N B ops (i :: rest) K E W :=
  aops_gives ho hg hd (gives_of fun a w ha hw hB => ⟨.int k (k.wrap (n.tdiv m)), w, evD_run hv ha w (by simp [binOp, Op.intDiv, h1]), rfl, rfl⟩) h
theorem aops_tmod {i : Nat} {rest : List Nat} {o : Oper} {k : IntKind} {n m : Int} (ho : ops[i]? = some o) (hg : guardE ops o E = some true) (hd : dstOk N o.dst = true)
    (hv : evD E o = some (.rem, k, n, m)) (h1 : m ≠ 0) (h : AOps P N B ops rest K (putE E o.dst (.int k (n.tmod m))) W) : AOps P N B ops (i :: rest) K E W :=
  aops_gives ho hg hd (gives_of fun a w ha hw hB => ⟨.int k (n.tmod m), w, evD_run hv ha w (by simp [binOp, Op.intDiv, h1]), rfl, rfl⟩) h
/-- bits -/
def isBits : BinOp → Bool
  | .and | .or | .xor | .andNot => true
  | _ => false
theorem aops_bits {i : Nat} {rest : List Nat} {o : Oper} {op : BinOp} {k : IntKind} {n m : Int} (ho : ops[i]? = some o) (hg : guardE ops o E = some true) (hd : dstOk N o.dst = true)
    (hv : evD E o = some (op, k, n, m)) (hop : isBits op = true) (h : AOps P N B ops rest K (putE E o.dst (.int k (bits op k n m))) W) : AOps P N B ops (i :: rest) K E W :=
  aops_gives ho hg hd (gives_of fun a w ha hw hB => ⟨.int k (bits op k n m), w, evD_run hv ha w (by cases op <;> simp [isBits] at hop <;> simp [binOp, intBits_and, intBits_or, intBits_xor, intBits_andNot]), rfl, rfl⟩) h
/-- shifts -/
def evS (E : Env) (o : Oper) : Option (BinOp × IntKind × Int × Int) :=
  match o.op with
  | .binOp op _ x y _ => match ev E x with
    | some (.int k a) => match ev E y with
      | some (.int _ b) => some (op, k, a, b)
      | _ => none
    | _ => none
  | _ => none
theorem aops_shl {i : Nat} {rest : List Nat} {o : Oper} {k : IntKind} {n m : Int} (ho : ops[i]? = some o) (hg : guardE ops o E = some true) (hd : dstOk N o.dst = true)
    (hv : evS E o = some (.shl, k, n, m)) (h0 : 0 ≤ m) (h1 : m ≤ k.bits) (h : AOps P N B ops rest K (putE E o.dst (.int k (k.wrap (n * 2 ^ m.toNat)))) W) : AOps P N B ops (i :: rest) K E W := by
  refine aops_gives ho hg hd (gives_of fun a w ha hw hB => ?_) h
  unfold evS at hv
  split at hv
  · rename_i op' t x y yt hop
    split at hv
    · rename_i k1 n1 hx
      split at hv
      · rename_i k2 m1 hy
        cases hv
        have e1 := cv_int (ev_sound ha hx)
        have e2 := cv_int (ev_sound ha hy)
        refine ⟨.int k (k.wrap (n * 2 ^ m.toNat)), w, ?_, rfl, rfl⟩
        simp only [execOp, hop, e1, e2]
        refine run_v ?_
        have hm : min m.toNat k.bits = m.toNat := by omega
        simp [eqGuard_at_int, binOp, Op.shift, show ¬ m < 0 by omega, hm]
      · cases hv
    · cases hv
  · cases hv
theorem aops_shr {i : Nat} {rest : List Nat} {o : Oper} {k : IntKind} {n m : Int} (ho : ops[i]? = some o) (hg : guardE ops o E = some true) (hd : dstOk N o.dst = true)
    (hv : evS E o = some (.shr, k, n, m)) (h0 : 0 ≤ m) (h1 : m ≤ k.bits) (h : AOps P N B ops rest K (putE E o.dst (.int k (n / 2 ^ m.toNat))) W) : AOps P N B ops (i :: rest) K E W := by
  refine aops_gives ho hg hd (gives_of fun a w ha hw hB => ?_) h
  unfold evS at hv
  split at hv
  · rename_i op' t x y yt hop
    split at hv
    · rename_i k1 n1 hx
      split at hv
      · rename_i k2 m1 hy
        cases hv
        have e1 := cv_int (ev_sound ha hx)
        have e2 := cv_int (ev_sound ha hy)
        refine ⟨.int k (n / 2 ^ m.toNat), w, ?_, rfl, rfl⟩
        simp only [execOp, hop, e1, e2]
        refine run_v ?_
        have hm : min m.toNat k.bits = m.toNat := by omega
        have hp : (0 : Int) ≤ 2 ^ m.toNat := Int.pow_nonneg (by decide)
        simp [eqGuard_at_int, binOp, Op.shift, show ¬ m < 0 by omega, hm, Int.fdiv_eq_ediv_of_nonneg n hp]
      · cases hv
    · cases hv
  · cases hv

/-! ### lengths and indexes -/
/-- a byte of a text -/
def bt (s : ByteArray) (i : Nat) : Nat := (s.data.toList[i]?.getD 0).toNat
theorem bt_lt (s : ByteArray) (i : Nat) : bt s i < 256 := UInt8.toNat_lt _

def evL (T : Tab) (E : Env) (o : Oper) : Option Value :=
  match o.op with
  | .call ⟨.builtin .len, args, ts⟩ => match args.toList with
    | [x] => match ts.toList with
      | [t] => match T.at t with
        | some ⟨.slice _, _, _, _⟩ => match ev E x with
          | some (.slice _ n _) => some (.int .i64 n)
          | _ => none
        | some ⟨.string, _, _, _⟩ => match ev E x with
          | some (.string s) => some (.int .i64 s.size)
          | _ => none
        | some ⟨.array m _, _, _, _⟩ => some (.int .i64 m)
        | _ => none
      | _ => none
    | _ => none
  | .call ⟨.builtin .max, args, _⟩ => match args.toList with
    | [x, y] => match ev E x with
      | some (.int k a) => match ev E y with
        | some (.int _ b) => some (.int k (max a b))
        | _ => none
      | some (.float k a) => match ev E y with
        | some (.float k' b) => match fkEq k k' with
          | true => some (.float k (fmax k a b))
          | false => none
        | _ => none
      | _ => none
    | _ => none
  | .call ⟨.builtin .min, args, _⟩ => match args.toList with
    | [x, y] => match ev E x with
      | some (.int k a) => match ev E y with
        | some (.int _ b) => some (.int k (min a b))
        | _ => none
      | some (.float k a) => match ev E y with
        | some (.float k' b) => match fkEq k k' with
          | true => some (.float k (fmin k a b))
          | false => none
        | _ => none
      | _ => none
    | _ => none
  | _ => none

theorem run_builtin {a : Act} {o : Oper} {b : Builtin} {args : Array Operand} {ts : Array TypeId} {u : Value} {w w' : World} (ho : o.op = .call ⟨.builtin b, args, ts⟩)
    (h : ∀ cs, (builtin b ts o.type cs (args.map a.eval)).run P w = .ok (.value u) w') : (execOp a.eval o).run P w = .ok (.value u) w' := by
  simp only [execOp, ho, resolve, invoke]
  exact h _

theorem gives_evL {T : Tab} (hT : TabOk P T) {o : Oper} {v : Value} (h : evL T E o = some v) : Gives P N B o E W v W := by
  unfold evL at h
  split at h
  · rename_i args ts ho
    split at h
    · rename_i x hargs
      split at h
      · rename_i t hts
        have e1 : args = #[x] := by apply Array.toList_inj.1; rw [hargs]
        have e2 : ts = #[t] := by apply Array.toList_inj.1; rw [hts]
        subst e1; subst e2
        refine gives_of fun a w ha hw hB => ?_
        split at h
        · rename_i e sz by_ z ht
          obtain ⟨hu, -⟩ := hT _ _ ht
          simp only at hu
          split at h
          · rename_i ad n c hx
            have := cv_slice (ev_sound ha hx)
            cases h
            refine ⟨.int .i64 n, w, run_builtin ho (fun _ => ?_), rfl, rfl⟩
            simp [builtin, Builtin.len_, this, run_underlying hu, goInt]
          · cases h
        · rename_i sz by_ z ht
          obtain ⟨hu, -⟩ := hT _ _ ht
          simp only at hu
          split at h
          · rename_i s hx
            have := cv_string (ev_sound ha hx)
            cases h
            refine ⟨.int .i64 s.size, w, run_builtin ho (fun _ => ?_), rfl, rfl⟩
            simp [builtin, Builtin.len_, this, run_underlying hu, goInt]
          · cases h
        · rename_i m e sz by_ z ht
          obtain ⟨hu, -⟩ := hT _ _ ht
          simp only at hu
          cases h
          refine ⟨.int .i64 m, w, run_builtin ho (fun _ => ?_), rfl, rfl⟩
          simp [builtin, Builtin.len_, run_underlying hu, goInt]
        · cases h
      · cases h
    · cases h
  · rename_i args ts ho
    split at h
    · rename_i x y hargs
      have e1 : args = #[x, y] := by apply Array.toList_inj.1; rw [hargs]
      subst e1
      refine gives_of fun a w ha hw hB => ?_
      split at h
      · rename_i k n hx
        split at h
        · rename_i k' m hy
          have h1 := cv_int (ev_sound ha hx)
          have h2 := cv_int (ev_sound ha hy)
          cases h
          refine ⟨.int k (max n m), w, run_builtin ho (fun _ => ?_), rfl, rfl⟩
          simp [builtin, Builtin.max_, Builtin.max2, h1, h2]
          rw [Int.max_def]; split <;> split <;> omega
        · cases h
      · rename_i k n hx
        split at h
        · rename_i k' m hy
          obtain ⟨b1, h1, f1⟩ := cv_float (ev_sound ha hx)
          obtain ⟨b2, h2, f2⟩ := cv_float (ev_sound ha hy)
          cases hk : fkEq k k' with
          | false => rw [hk] at h; cases h
          | true =>
            rw [hk] at h
            have := fkEq_eq hk
            subst this
            cases h
            rw [← f1, ← f2, fmax_canon]
            unfold fmax
            cases hord : k.format.order b1 b2 with
            | none =>
              refine ⟨.float k ((Question.nanMinMax k true b1 b2).cut (w.tape w.drawn (.nanMinMax k true b1 b2))), w.drew, run_builtin ho (fun _ => ?_), ?_, rfl⟩
              · simp [builtin, Builtin.max_, Builtin.max2, h1, h2, hord, Question.forced]
              · simp [cv, c1, cl, cut_minmax, cb_qnan]
            | some od =>
              cases od
              · exact ⟨.float k b2, w, run_builtin ho (fun _ => by simp [builtin, Builtin.max_, Builtin.max2, h1, h2, hord]), by simp [cv, c1, cl], rfl⟩
              · refine ⟨.float k (if (k.decode b1).neg = true then b2 else b1), w, run_builtin ho (fun _ => by simp [builtin, Builtin.max_, Builtin.max2, h1, h2, hord]), by simp [cv, c1, cl], rfl⟩
              · exact ⟨.float k b1, w, run_builtin ho (fun _ => by simp [builtin, Builtin.max_, Builtin.max2, h1, h2, hord]), by simp [cv, c1, cl], rfl⟩
        · cases h
      · cases h
    · cases h
  · rename_i args ts ho
    split at h
    · rename_i x y hargs
      have e1 : args = #[x, y] := by apply Array.toList_inj.1; rw [hargs]
      subst e1
      refine gives_of fun a w ha hw hB => ?_
      split at h
      · rename_i k n hx
        split at h
        · rename_i k' m hy
          have h1 := cv_int (ev_sound ha hx)
          have h2 := cv_int (ev_sound ha hy)
          cases h
          refine ⟨.int k (min n m), w, run_builtin ho (fun _ => ?_), rfl, rfl⟩
          simp [builtin, Builtin.min_, Builtin.min2, h1, h2]
          rw [Int.min_def]; split <;> split <;> omega
        · cases h
      · rename_i k n hx
        split at h
        · rename_i k' m hy
          obtain ⟨b1, h1, f1⟩ := cv_float (ev_sound ha hx)
          obtain ⟨b2, h2, f2⟩ := cv_float (ev_sound ha hy)
          cases hk : fkEq k k' with
          | false => rw [hk] at h; cases h
          | true =>
            rw [hk] at h
            have := fkEq_eq hk
            subst this
            cases h
            rw [← f1, ← f2, fmin_canon]
            unfold fmin
            cases hord : k.format.order b1 b2 with
            | none =>
              refine ⟨.float k ((Question.nanMinMax k false b1 b2).cut (w.tape w.drawn (.nanMinMax k false b1 b2))), w.drew, run_builtin ho (fun _ => ?_), ?_, rfl⟩
              · simp [builtin, Builtin.min_, Builtin.min2, h1, h2, hord, Question.forced]
              · simp [cv, c1, cl, cut_minmax, cb_qnan]
            | some od =>
              cases od
              · exact ⟨.float k b1, w, run_builtin ho (fun _ => by simp [builtin, Builtin.min_, Builtin.min2, h1, h2, hord]), by simp [cv, c1, cl], rfl⟩
              · refine ⟨.float k (if (k.decode b1).neg = true then b1 else b2), w, run_builtin ho (fun _ => by simp [builtin, Builtin.min_, Builtin.min2, h1, h2, hord]), by simp [cv, c1, cl], rfl⟩
              · exact ⟨.float k b2, w, run_builtin ho (fun _ => by simp [builtin, Builtin.min_, Builtin.min2, h1, h2, hord]), by simp [cv, c1, cl], rfl⟩
        · cases h
      · cases h
    · cases h
  · cases h
theorem aops_len {T : Tab} (hT : TabOk P T) {i : Nat} {rest : List Nat} {o : Oper} {v : Value} (ho : ops[i]? = some o) (hg : guardE ops o E = some true) (hd : dstOk N o.dst = true)
    (hv : evL T E o = some v) (k : AOps P N B ops rest K (putE E o.dst v) W) : AOps P N B ops (i :: rest) K E W :=
  aops_gives ho hg hd (gives_evL hT hv) k

/-- an index of a slice: the address -/
def evI (T : Tab) (E : Env) (o : Oper) : Option (Nat × Nat × Nat × Int × Nat) :=
  match o.op with
  | .indexAddr t x ix => match T.at t with
    | some ⟨.slice e, _, _, _⟩ => match T.at e with
      | some te => match ev E x with
        | some (.slice (some ⟨b, off, none⟩) n _) => match ev E ix with
          | some (.int _ i) => some (b, off, n, i, te.size)
          | _ => none
        | _ => none
      | none => none
    | _ => none
  | _ => none
theorem gives_index {T : Tab} (hT : TabOk P T) {o : Oper} {b off n sz : Nat} {ix : Int} (hv : evI T E o = some (b, off, n, ix, sz)) (h0 : 0 ≤ ix) (h1 : ix < n) : Gives P N B o E W (.pointer (some ⟨b, off + ix.toNat * sz, none⟩)) W := by
  refine gives_of fun a w ha hw hB => ?_
  unfold evI at hv
  split at hv
  · rename_i t x ixo hop
    split at hv
    · rename_i e s1 b1 z1 ht
      obtain ⟨hu, -⟩ := hT _ _ ht
      simp only at hu
      split at hv
      · rename_i te hte
        obtain ⟨-, ii, hi, hs, -⟩ := hT _ _ hte
        split at hv
        · rename_i b' off' n' c' hx
          split at hv
          · rename_i k' i' hix
            have e1 := cv_slice (ev_sound ha hx)
            have e2 := cv_int (ev_sound ha hix)
            cases hv
            refine ⟨.pointer (some ⟨b, off + ix.toNat * te.size, none⟩), w, ?_, rfl, rfl⟩
            simp only [execOp, hop, e1, e2]
            refine run_v ?_
            simp [Instr.indexAt, asIntOf, run_underlying hu, sizeOf, typeInfo, hi, hs, h0, h1, Addr.add_lit]
          · cases hv
        · cases hv
      · cases hv
    · cases hv
  · cases hv
theorem aops_index {T : Tab} (hT : TabOk P T) {i : Nat} {rest : List Nat} {o : Oper} {b off n sz : Nat} {ix : Int} (ho : ops[i]? = some o) (hg : guardE ops o E = some true) (hd : dstOk N o.dst = true)
    (hv : evI T E o = some (b, off, n, ix, sz)) (h0 : 0 ≤ ix) (h1 : ix < n) (k : AOps P N B ops rest K (putE E o.dst (.pointer (some ⟨b, off + ix.toNat * sz, none⟩))) W) : AOps P N B ops (i :: rest) K E W := aops_gives ho hg hd (gives_index hT hv h0 h1) k
/-- an index of a text: the byte -/
def evX (T : Tab) (E : Env) (o : Oper) : Option (ByteArray × Int) :=
  match o.op with
  | .index t x ix => match T.at t with
    | some ⟨.string, _, _, _⟩ => match ev E x with
      | some (.string s) => match ev E ix with
        | some (.int _ i) => some (s, i)
        | _ => none
      | _ => none
    | _ => none
  | _ => none
theorem gives_byte {T : Tab} (hT : TabOk P T) {o : Oper} {s : ByteArray} {ix : Int} (hv : evX T E o = some (s, ix)) (h0 : 0 ≤ ix) (h1 : ix < s.size) : Gives P N B o E W (.int .u8 (bt s ix.toNat)) W := by
  refine gives_of fun a w ha hw hB => ?_
  unfold evX at hv
  split at hv
  · rename_i t x ixo hop
    split at hv
    · rename_i s1 b1 z1 ht
      obtain ⟨hu, -⟩ := hT _ _ ht
      simp only at hu
      split at hv
      · rename_i s' hx
        split at hv
        · rename_i k' i' hix
          have e1 := cv_string (ev_sound ha hx)
          have e2 := cv_int (ev_sound ha hix)
          cases hv
          refine ⟨.int .u8 (bt s ix.toNat), w, ?_, rfl, rfl⟩
          simp only [execOp, hop, e1, e2]
          refine run_v ?_
          have hlt : ix.toNat < s.size := by omega
          have hb : s[ix.toNat]? = some s[ix.toNat] := by simp [hlt]
          have hbt : (s[ix.toNat]).toNat = bt s ix.toNat := by
            unfold bt
            have : s.data.toList[ix.toNat]? = some s[ix.toNat] := by
              rw [Array.getElem?_toList]
              have hlt' : ix.toNat < s.data.size := hlt
              rw [Array.getElem?_eq_getElem hlt']; rfl
            rw [this]; rfl
          simp [Instr.index, asIntOf, run_underlying hu, h0, hb, hbt]
        · cases hv
      · cases hv
    · cases hv
  · cases hv
theorem aops_byte {T : Tab} (hT : TabOk P T) {i : Nat} {rest : List Nat} {o : Oper} {s : ByteArray} {ix : Int} (ho : ops[i]? = some o) (hg : guardE ops o E = some true) (hd : dstOk N o.dst = true)
    (hv : evX T E o = some (s, ix)) (h0 : 0 ≤ ix) (h1 : ix < s.size) (k : AOps P N B ops rest K (putE E o.dst (.int .u8 (bt s ix.toNat))) W) : AOps P N B ops (i :: rest) K E W := aops_gives ho hg hd (gives_byte hT hv h0 h1) k
end
attribute [irreducible] bt
end Go.Proofs.Ytmplincflbhmiaa.Cn
