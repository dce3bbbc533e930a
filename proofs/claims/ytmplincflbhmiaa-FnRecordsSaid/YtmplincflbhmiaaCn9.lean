/- Functions without a Go body: the bits of floats. Absolute values, signs, what is finite. -/
import Derived.Test.YtmplincflbhmiaaCn8
import GoSem.Extern.Table
namespace Go.Proofs.Ytmplincflbhmiaa.Cn
set_option linter.unusedSimpArgs false
set_option linter.unusedVariables false
open Go Go.RowKit

section
variable {P : Program} {N B : Nat} {E : Env} {W : World} {ops : Array Oper} {K : Exit → Env → World → Prop}

def AExt (P : Program) (B : Nat) (f : FuncId) (args : List Value) (W : World) (R : Value → World → Prop) : Prop :=
  ∀ (xs : Array Value) w, xs.toList.map cv = args → cw B w = W → B ≤ w.heap.size → ∃ u w', (callFunc f xs).run P w = .ok (.value u) w' ∧ B ≤ w'.heap.size ∧ R (cv u) (cw B w')

theorem ext_run {f : FuncId} {fn : Func} {e : Array Value → Sem Value} (hf : P.funcs[f]? = some fn) (hn : (fn.name == "runtime.NumGoroutine") = false) (hb : fn.body.isNone = true) (hx : Extern.findNext fn = none) (he : Extern.find fn = some e)
    {xs : Array Value} {w w' : World} {u : Value} (h : (e xs).run P w = .ok u w') : (callFunc f xs).run P w = .ok (.value u) w' := by
  simp only [callFunc, Sem.run_bind, run_program, Result.andThen_ok, hf, hn, hb, hx, he]
  simp [h]

theorem aops_ext {i : Nat} {rest : List Nat} {o : Oper} {f : FuncId} {args : List Value} {R : Value → World → Prop} (ho : ops[i]? = some o) (hg : guardE ops o E = some true) (hd : dstOk N o.dst = true)
    (hv : evC' E o = some (f, args)) (hc : AExt P B f args W R) (k : ∀ v W', R v W' → AOps P N B ops rest K (putE E o.dst v) W') : AOps P N B ops (i :: rest) K E W := by
  refine aops_yields ho hg hd ?_ k
  intro a w ha hw hB
  unfold evC' at hv
  split at hv
  · rename_i fx as ts hop
    split at hv
    · rename_i f' first caps hfx
      split at hv
      · rename_i hfirst
        split at hv
        · rename_i l hl
          split at hv
          · rename_i cs hcs
            cases hv
            have e1 := cv_func (ev_sound ha hfx)
            have e2 := evs_sound ha as.toList l hl
            have e3 : first = #[] := by apply Array.toList_inj.1; rw [hfirst]
            obtain ⟨e4, e5⟩ := ptrs_self _ _ hcs
            subst e3
            obtain ⟨u, w', hr, hB', hR⟩ := hc (as.map a.eval ++ caps) w (by rw [Array.toList_append, List.map_append, Array.toList_map, e2, e4, e5]) hw hB
            refine ⟨u, w', ?_, hB', hR⟩
            simp only [execOp, hop, resolve, Deferred.ofValue, e1, invoke]
            simp only [Sem.run_bind, Sem.run_pure, Result.andThen_ok, Array.empty_append]
            exact hr
          · cases hv
        · cases hv
      · cases hv
    · cases hv
  · cases hv

theorem s_ext {i : Nat} {rest : List Nat} {d : Nat} {op : Op} {ty : TypeId} {pos : String} {aft : Array Edge} {g : Option (Nat × Bool)} {f : FuncId} {args : List Value} {R : Value → World → Prop} (ho : getL ops.toList i = some ⟨some d, op, ty, pos, aft, g⟩)
    (hg : guardE ops ⟨some d, op, ty, pos, aft, g⟩ E = some true) (hd : Nat.ble (d + 1) N = true) (hv : evC' E ⟨some d, op, ty, pos, aft, g⟩ = some (f, args)) (hc : AExt P B f args W R)
    (k : ∀ v W', R v W' → AOps P N B ops rest K ((d, v) :: E) W') : AOps P N B ops (i :: rest) K E W :=
  aops_ext (getL_ok ho) hg hd hv hc k
theorem one_arg {xs : Array Value} {v : Value} (h : xs.toList.map cv = [v]) : ∃ u, xs = #[u] ∧ cv u = v := by
  match hx : xs.toList, h with
  | [u], h =>
    refine ⟨u, ?_, by simpa using h⟩
    apply Array.toList_inj.1; rw [hx]

theorem ext_f64bits {f : FuncId} {fn : Func} (hf : P.funcs[f]? = some fn) (hn : (fn.name == "runtime.NumGoroutine") = false) (hb : fn.body.isNone = true) (hx : Extern.findNext fn = none) (he : Extern.find fn = some Extern.MathFloatBits.float64bits)
    (x : Nat) : AExt P B f [.float .f64 x] W (fun v W' => (∃ b : Nat, v = .int .u64 b ∧ cb .f64 b = x) ∧ W' = W) := by
  intro xs w h1 h2 h3
  obtain ⟨u, rfl, hu⟩ := one_arg h1
  obtain ⟨b, rfl, hb'⟩ := cv_float hu
  exact ⟨.int .u64 b, w, ext_run hf hn hb hx he rfl, h3, ⟨b, rfl, hb'⟩, h2⟩
theorem ext_f64frombits {f : FuncId} {fn : Func} (hf : P.funcs[f]? = some fn) (hn : (fn.name == "runtime.NumGoroutine") = false) (hb : fn.body.isNone = true) (hx : Extern.findNext fn = none) (he : Extern.find fn = some Extern.MathFloatBits.float64frombits)
    (n : Int) : AExt P B f [.int .u64 n] W (fun v W' => v = .float .f64 (cb .f64 n.toNat) ∧ W' = W) := by
  intro xs w h1 h2 h3
  obtain ⟨u, rfl, hu⟩ := one_arg h1
  have := cv_int hu
  subst this
  exact ⟨.float .f64 n.toNat, w, ext_run hf hn hb hx he rfl, h3, rfl, h2⟩
theorem ext_f32bits {f : FuncId} {fn : Func} (hf : P.funcs[f]? = some fn) (hn : (fn.name == "runtime.NumGoroutine") = false) (hb : fn.body.isNone = true) (hx : Extern.findNext fn = none) (he : Extern.find fn = some Extern.MathFloatBits.float32bits)
    (x : Nat) : AExt P B f [.float .f32 x] W (fun v W' => (∃ b : Nat, v = .int .u32 b ∧ cb .f32 b = x) ∧ W' = W) := by
  intro xs w h1 h2 h3
  obtain ⟨u, rfl, hu⟩ := one_arg h1
  obtain ⟨b, rfl, hb'⟩ := cv_float hu
  exact ⟨.int .u32 b, w, ext_run hf hn hb hx he rfl, h3, ⟨b, rfl, hb'⟩, h2⟩
theorem ext_f32frombits {f : FuncId} {fn : Func} (hf : P.funcs[f]? = some fn) (hn : (fn.name == "runtime.NumGoroutine") = false) (hb : fn.body.isNone = true) (hx : Extern.findNext fn = none) (he : Extern.find fn = some Extern.MathFloatBits.float32frombits)
    (n : Int) : AExt P B f [.int .u32 n] W (fun v W' => v = .float .f32 (cb .f32 n.toNat) ∧ W' = W) := by
  intro xs w h1 h2 h3
  obtain ⟨u, rfl, hu⟩ := one_arg h1
  have := cv_int hu
  subst this
  exact ⟨.float .f32 n.toNat, w, ext_run hf hn hb hx he rfl, h3, rfl, h2⟩
end

/-! ### absolute values and signs of 64-bit words -/
/-- the word without its sign -/
@[irreducible] def fabs (x : Nat) : Nat := cb .f64 (x % 9223372036854775808)
theorem sw64 : FloatKind.f64.format.signWeight = 9223372036854775808 := by decide
theorem sw32 : FloatKind.f32.format.signWeight = 2147483648 := by decide
theorem nan_mod64 (b : Nat) : (FloatKind.f64.decode (b % 9223372036854775808)).isNaN = (FloatKind.f64.decode b).isNaN := by
  show (FloatKind.f64.format.read _).isNaN = (FloatKind.f64.format.read _).isNaN
  rw [isNaN_rung, isNaN_rung, sw64, Nat.mod_mod]
theorem fabs_canon (b : Nat) : fabs (cb .f64 b) = cb .f64 (b % 9223372036854775808) := by
  unfold fabs
  cases h : (FloatKind.f64.decode b).isNaN
  · rw [cb_num h]
  · rw [cb_nan h, cb_nan (by rw [nan_mod64]; exact qnan_nan _), cb_nan (by rw [nan_mod64]; exact h)]
theorem bits_andNot_sign (b : Nat) : bits .andNot .u64 (b : Int) 9223372036854775808 = ((b % 9223372036854775808 : Nat) : Int) := by
  have h : ((BitVec.ofInt 64 (b : Int)) &&& ~~~(BitVec.ofInt 64 9223372036854775808)).toNat = b % 9223372036854775808 := by
    have h1 : BitVec.ofInt 64 (b : Int) = BitVec.ofNat 64 b := by simp [BitVec.ofInt_natCast]
    have h2 : ~~~(BitVec.ofInt 64 9223372036854775808) = BitVec.ofNat 64 (2 ^ 63 - 1) := by decide
    rw [h1, h2, BitVec.toNat_and, BitVec.toNat_ofNat, BitVec.toNat_ofNat]
    rw [show (2 ^ 63 - 1) % 2 ^ 64 = 2 ^ 63 - 1 by decide, Nat.and_two_pow_sub_one_eq_mod]
    omega
  show IntKind.u64.wrap (((BitVec.ofInt 64 (b : Int)) &&& ~~~(BitVec.ofInt 64 9223372036854775808)).toNat : Int) = _
  rw [h]
  apply wrap_inR
  simp only [InR]
  omega
end Go.Proofs.Ytmplincflbhmiaa.Cn
