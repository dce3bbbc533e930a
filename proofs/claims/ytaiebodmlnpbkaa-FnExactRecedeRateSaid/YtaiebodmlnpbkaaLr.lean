/- Square roots: what is narrowed is never too great. -/
import Derived.Test.YtaiebodmlnpbkaaLq
import GoSem.Extern.MathSqrt
namespace Go.Proofs.Ytaiebodmlnpbkaa
set_option linter.unusedSimpArgs false
set_option linter.unusedVariables false
open Go Cn Go.RowKit
def fsqrt (x : Nat) : Nat := match FloatKind.f64.format.sqrt x with
  | some r => cb .f64 r
  | none => qnan .f64
theorem fsqrt_canon (x : Nat) : fsqrt (cb .f64 x) = fsqrt x := by
  cases h : (FloatKind.f64.decode x).isNaN
  · rw [cb_num h]
  · rw [cb_nan h]
    have key : ∀ y, (FloatKind.f64.decode y).isNaN = true → FloatKind.f64.format.sqrt y = none := fun y hy => by
      unfold Ieee.Format.sqrt
      have hd : FloatKind.f64.format.read y = FloatKind.f64.decode y := rfl
      rw [hd]
      cases hq : FloatKind.f64.decode y with
      | nan a b => rfl
      | number a b c => rw [hq] at hy; cases hy
      | infinity a => rw [hq] at hy; cases hy
    unfold fsqrt
    rw [key _ h, key _ (qnan_nan .f64)]
section
variable {P : Program} {N B : Nat} {W : World}
theorem ext_sqrt {f : FuncId} {fn : Func} (hf : P.funcs[f]? = some fn) (hn : (fn.name == "runtime.NumGoroutine") = false) (hb : fn.body.isNone = true) (hx : Extern.findNext fn = none) (he : Extern.find fn = some Extern.MathSqrt.sqrt)
    (x : Nat) : AExt P B f [.float .f64 x] W (fun v W' => v = .float .f64 (fsqrt x) ∧ W' = W) := by
  intro xs w h1 h2 h3
  obtain ⟨u, rfl, hu⟩ := one_arg h1
  obtain ⟨b, rfl, hb'⟩ := cv_float hu
  have e : fsqrt x = fsqrt b := by rw [← hb', fsqrt_canon]
  have hq : Extern.MathSqrt.sqrt #[.float .f64 b] = (match FloatKind.f64.format.sqrt b with | some r => pure (.float .f64 r) | none => do pure (.float .f64 (← choose (.nanBits .f64 b b)))) := rfl
  cases hs : FloatKind.f64.format.sqrt b with
  | some r =>
    refine ⟨.float .f64 r, w, ext_run hf hn hb hx he (by rw [hq, hs]; rfl), h3, ?_, h2⟩
    rw [e]; unfold fsqrt; rw [hs]; rfl
  | none =>
    refine ⟨.float .f64 ((Question.nanBits .f64 b b).cut (w.tape w.drawn (.nanBits .f64 b b))), w.drew, ext_run hf hn hb hx he (by rw [hq, hs]; simp [Question.forced]), h3, ?_, h2⟩
    rw [e]; unfold fsqrt; rw [hs]
    have := cut_bits .f64 b b (w.tape w.drawn (.nanBits .f64 b b))
    simp only [cv, Cn.c1, cl] at this ⊢
    rw [this]
end
theorem rootFrom_sq (n : Nat) : ∀ todo root : Nat, root * root ≤ n → Ieee.Datum.rootFrom n todo root * Ieee.Datum.rootFrom n todo root ≤ n
  | 0, _, h => h
  | todo + 1, root, h => by
    unfold Ieee.Datum.rootFrom
    dsimp only
    split
    · rename_i h2; exact rootFrom_sq n todo _ h2
    · exact rootFrom_sq n todo _ h
theorem root_le {digits m : Nat} {i k : Int} {w t more : Nat} (h : Le2 (2 * k) m i) (hmore : more = 2 * digits - m.log2 + ((i - (2 * digits - m.log2 : Nat)) % 2).toNat) (hw : w * w ≤ m <<< more) (ht : t ≤ 1) (hm : m ≠ 0) : Le2 (k + 1) (2 * w + t) ((i - more) / 2 - 1) := by
  rcases h with h | ⟨h1, h2⟩
  · exact absurd h hm
  generalize hh : (i - more) / 2 = q
  have he : i - more = 2 * q := by omega
  have hn : m <<< more ≤ 2 ^ (k - q).toNat * 2 ^ (k - q).toNat := by
    rw [Nat.shiftLeft_eq, ← Nat.pow_add]
    refine Nat.le_trans (Nat.mul_le_mul_right _ h2) ?_
    rw [← Nat.pow_add]
    exact Nat.pow_le_pow_right (by decide) (by omega)
  have hwk : w ≤ 2 ^ (k - q).toNat := by
    apply Nat.le_of_not_lt
    intro hlt
    have := Nat.mul_lt_mul'' hlt hlt
    omega
  refine .inr ⟨by omega, ?_⟩
  have h4 : 2 ^ (k + 1 - (q - 1)).toNat = 4 * 2 ^ (k - q).toNat := by rw [show (k + 1 - (q - 1)).toNat = (k - q).toNat + 1 + 1 by omega, Nat.pow_succ, Nat.pow_succ]; omega
  have h5 : 1 ≤ 2 ^ (k - q).toNat := Nat.one_le_two_pow
  omega
theorem wide_le {x : Nat} {s : Bool} {m : Nat} {e : Int} (h : FloatKind.f32.decode x = .number s m e) : DLe 128 (FloatKind.f64.decode (fwide x)) := by
  have hle : Le2 128 m e := by
    rw [dec32] at h
    split at h
    · rename_i h1
      cases h
      refine .inr ⟨by decide, Nat.le_trans (Nat.le_of_lt h1) (Nat.le_trans (show 8388608 ≤ 2 ^ 23 by decide) (Nat.pow_le_pow_right (by decide) (by decide)))⟩
    · split at h
      · rename_i h1 h2
        cases h
        refine .inr ⟨by omega, ?_⟩
        have : 2 ^ 24 ≤ 2 ^ (128 - (-149 + ((x % 2147483648 / 8388608 - 1 : Nat) : Int))).toNat := Nat.pow_le_pow_right (by decide) (by omega)
        omega
      · split at h <;> cases h
  have hw := fconv_wide x
  unfold fconv at hw
  rw [if_neg (by decide), h] at hw
  dsimp only at hw
  obtain ⟨h1, h2⟩ := enc64 (s := s) hle (by decide) (by decide)
  split at hw
  · cases hw
  · rw [← Option.some.inj hw, h2]
    exact h1
theorem inf_back (s : Bool) : FloatKind.f64.decode (cb .f64 (FloatKind.f64.encode (.infinity s))) = .infinity s := by
  have h : FloatKind.f64.encode (.infinity s) = FloatKind.f64.format.word s 9218868437227405312 := rfl
  rw [h, cb_word64 (Nat.le_refl _), word64, dec64]
  cases s <;> rfl
/-- roots narrow to numbers -/
theorem sqrt_ok (x : Nat) : ∃ r, fconv .f64 .f32 (fsqrt (fwide x)) = some r := by
  have nan : ∀ y, (FloatKind.f64.decode y).isNaN = true → ∃ r, fconv .f64 .f32 y = some r := fun y hy => by
    unfold fconv
    rw [if_neg (by decide)]
    cases hd : FloatKind.f64.decode y with
    | nan a b => exact ⟨_, rfl⟩
    | infinity a => exact ⟨_, rfl⟩
    | number a b c => rw [hd] at hy; cases hy
  have inf : ∀ y s, FloatKind.f64.decode y = .infinity s → ∃ r, fconv .f64 .f32 y = some r := fun y s hy => by
    unfold fconv
    rw [if_neg (by decide), hy]
    exact ⟨_, rfl⟩
  have hq : (FloatKind.f64.decode (qnan .f64)).isNaN = true := qnan_nan .f64
  unfold fsqrt
  cases hs : FloatKind.f64.format.sqrt (fwide x) with
  | none => exact nan _ hq
  | some r =>
    unfold Ieee.Format.sqrt at hs
    rw [show FloatKind.f64.format.read (fwide x) = FloatKind.f64.decode (fwide x) from rfl] at hs
    cases hd : FloatKind.f64.decode (fwide x) with
    | nan a b => rw [hd] at hs; cases hs
    | infinity a =>
      rw [hd] at hs
      cases a with
      | true => cases hs
      | false =>
        cases hs
        exact inf _ false (inf_back false)
    | number s m e =>
      have hl : Le2 128 m e := by
        cases h32 : FloatKind.f32.decode x with
        | number s' m' e' =>
          have := wide_le h32
          rw [hd] at this
          exact this
        | infinity a =>
          have hw := fconv_wide x
          unfold fconv at hw
          rw [if_neg (by decide), h32] at hw
          dsimp only at hw
          rw [← Option.some.inj hw] at hd
          rw [inf_back] at hd
          cases hd
        | nan a b =>
          have hw := fconv_wide x
          unfold fconv at hw
          rw [if_neg (by decide), h32] at hw
          dsimp only at hw
          rw [← Option.some.inj hw] at hd
          rw [hd] at hq
          cases hq
      rw [hd] at hs
      unfold Ieee.Datum.root at hs
      dsimp only at hs
      by_cases hm : m = 0
      · rw [if_pos hm] at hs
        subst hm
        have hr := Option.some.inj hs
        obtain ⟨h1, h2⟩ := enc64 (s := s) (m := 0) (p := e) (k := 0) (.inl rfl) (by decide) (by decide)
        have hr' : FloatKind.f64.encode (.number s 0 e) = r := hr
        rw [hr'] at h1 h2
        show ∃ r_1, fconv .f64 .f32 (cb .f64 r) = some r_1
        rw [h2]
        exact narrow_ok h1 (by decide) (by decide)
      · rw [if_neg hm] at hs
        cases s with
        | true => cases hs
        | false =>
          simp only [Bool.false_eq_true, if_false] at hs
          have hr := Option.some.inj hs
          generalize hmo : 2 * (FloatKind.f64.format.fractionBits + 2) - m.log2 + ((e - (2 * (FloatKind.f64.format.fractionBits + 2) - m.log2 : Nat)) % 2).toNat = more at hr
          have hsq := rootFrom_sq (m <<< more) ((m <<< more).log2 / 2 + 1) 0 (by rw [Nat.zero_mul]; exact Nat.zero_le _)
          have hle := root_le (k := 64) (t := (Ieee.Datum.rootFrom (m <<< more) ((m <<< more).log2 / 2 + 1) 0 * Ieee.Datum.rootFrom (m <<< more) ((m <<< more).log2 / 2 + 1) 0 != m <<< more).toNat) hl hmo.symm hsq (Bool.toNat_le _) hm
          obtain ⟨h1, h2⟩ := enc64 (s := false) hle (by decide) (by decide)
          have hr' : FloatKind.f64.encode (.number false (2 * Ieee.Datum.rootFrom (m <<< more) ((m <<< more).log2 / 2 + 1) 0 + (Ieee.Datum.rootFrom (m <<< more) ((m <<< more).log2 / 2 + 1) 0 * Ieee.Datum.rootFrom (m <<< more) ((m <<< more).log2 / 2 + 1) 0 != m <<< more).toNat) ((e - more) / 2 - 1)) = r := hr
          rw [hr'] at h1 h2
          show ∃ r_1, fconv .f64 .f32 (cb .f64 r) = some r_1
          rw [h2]
          exact narrow_ok h1 (by decide) (by decide)
@[irreducible] def rootN (x : Nat) : Nat := (fconv .f64 .f32 (fsqrt (fwide x))).getD 0
theorem rootN_conv (x : Nat) : fconv .f64 .f32 (fsqrt (fwide x)) = some (rootN x) := by
  obtain ⟨r, h⟩ := sqrt_ok x
  unfold rootN
  rw [h]; rfl
theorem fsqrt_cb (x : Nat) : cb .f64 (fsqrt x) = fsqrt x := by
  unfold fsqrt
  split
  · exact cb_cb _ _
  · exact cb_nan (qnan_nan .f64)
section
variable {P : Program} {N B : Nat} {E : Env} {W : World} {ops : Array Oper} {K : Exit → Env → World → Prop} {T : Tab} {o : Oper}
def evNw (T : Tab) (E : Env) (o : Oper) : Option Nat :=
  match o.op with
  | .convert s d x => match T.at s with
    | some _ => match T.at d with
      | some ⟨.float .f32, _, _, _⟩ => match ev E x with
        | some (.float .f64 b) => some b
        | _ => none
      | _ => none
    | none => none
  | _ => none
theorem gives_narrow (hT : TabOk P T) {x r : Nat} (hv : evNw T E o = some x) (hf : fconv .f64 .f32 x = some r) : Gives P N B o E W (.float .f32 r) W := by
  refine gives_of fun a w ha hw hB => ?_
  unfold evNw at hv
  split at hv
  · rename_i s d y ho
    split at hv
    · rename_i ts hs
      obtain ⟨hus, -⟩ := hT _ _ hs
      split at hv
      · rename_i sz by_ z hd
        obtain ⟨hud, -⟩ := hT _ _ hd
        simp only at hud
        split at hv
        · rename_i b hx
          cases hv
          obtain ⟨b', e1, e2⟩ := cv_float (ev_sound ha hx)
          rw [← e2, fconv_canon] at hf
          obtain ⟨q, w', hr, hc, hw'⟩ := run_fconv (P := P) hf w
          refine ⟨.float .f32 q, w', ?_, by rw [← hc]; rfl, by rcases hw' with rfl | rfl <;> rfl⟩
          simp only [execOp, ho, e1]
          refine run_v ?_
          simp [convert, run_underlying hus, run_underlying hud]
          generalize ts.d = dd at *
          cases dd <;> simp [hr]
        · cases hv
      · cases hv
    · cases hv
  · cases hv
theorem s_narrow (hT : TabOk P T) {i : Nat} {rest : List Nat} {d : Nat} {op : Op} {ty : TypeId} {pos : String} {aft : Array Edge} {g : Option (Nat × Bool)} {x r : Nat} (ho : getL ops.toList i = some ⟨some d, op, ty, pos, aft, g⟩) (hg : guardE ops ⟨some d, op, ty, pos, aft, g⟩ E = some true) (hd : Nat.ble (d + 1) N = true)
    (hv : evNw T E ⟨some d, op, ty, pos, aft, g⟩ = some x) (hf : fconv .f64 .f32 x = some r) (h : AOps P N B ops rest K ((d, .float .f32 r) :: E) W) : AOps P N B ops (i :: rest) K E W :=
  s_givesv ho hg hd (gives_narrow hT hv hf) h
end
section
variable {B : Nat} {A W W' : World} {L L' : List Res}
theorem x_math_sqrt (x : Nat) : AExt Try.prog B 133 [.float .f64 x] W (fun v W' => v = .float .f64 (fsqrt x) ∧ W' = W) := ext_sqrt Try.func133 (by kernel_rfl) (by kernel_rfl) (by kernel_rfl) (by kernel_rfl) x
theorem c_math_Sqrt (x : Nat) : ACalls Try.prog B 95 [.float .f64 x] W (fun v W' => v = .float .f64 (fsqrt x) ∧ W' = W) := by
  refine acalls_of Try.func95 rfl Try.ntmps95 (Nat.le_of_ble_eq_true rfl) ?_
  repeat' (first
      | refine s_pure tabOk rfl rfl rfl rfl ?_
      | refine aops_nil ?_
      | refine thn_normal ?_
      | refine aw_seq ?_
      | refine aw_reg ?_
      | refine s_pass rfl rfl rfl ?_
      | refine s_len tabOk rfl rfl rfl rfl ?_
      | refine aw_true rfl ?_
      | refine aw_false rfl ?_
      | refine aw_block ?_
      | refine aw_skip ?_
      | refine aw_exit ?_
      | refine blk_exit ?_
      | refine blk_exit_other rfl ?_
      | refine blk_normal ?_
      | refine thn_exit ?_
      | refine thn_ret ?_
      | refine blk_ret ?_
      | refine rnd_ret ?_
      | refine rnd_exit ?_
      | refine aw_ret ?_
      | refine s_arith tabOk rfl rfl rfl rfl (by simp only [InR]; omega) ?_
      | ((fail_if_success refine s_told rfl rfl ?_); refine s_part rfl rfl rfl ?_ ?_ <;> intro hc <;> (first | replace hc := of_decide_eq_true hc | replace hc := of_decide_eq_false hc | replace hc := eq_of_beq hc | skip))
      | (refine aw_if rfl ?_ ?_ <;> intro hc <;> (first | replace hc := of_decide_eq_true hc | replace hc := of_decide_eq_false hc | replace hc := eq_of_beq hc | skip))
      | refine s_index1 tabOk rfl rfl rfl rfl (by omega) (by omega) ?_)
  refine s_ext rfl rfl rfl rfl (x_math_sqrt _) ?_
  rintro _ _ ⟨rfl, rfl⟩
  repeat' (first
      | refine s_pure tabOk rfl rfl rfl rfl ?_
      | refine aops_nil ?_
      | refine thn_normal ?_
      | refine aw_seq ?_
      | refine aw_reg ?_
      | refine s_pass rfl rfl rfl ?_
      | refine s_len tabOk rfl rfl rfl rfl ?_
      | refine aw_true rfl ?_
      | refine aw_false rfl ?_
      | refine aw_block ?_
      | refine aw_skip ?_
      | refine aw_exit ?_
      | refine blk_exit ?_
      | refine blk_exit_other rfl ?_
      | refine blk_normal ?_
      | refine thn_exit ?_
      | refine thn_ret ?_
      | refine blk_ret ?_
      | refine rnd_ret ?_
      | refine rnd_exit ?_
      | refine aw_ret ?_
      | refine s_arith tabOk rfl rfl rfl rfl (by simp only [InR]; omega) ?_
      | ((fail_if_success refine s_told rfl rfl ?_); refine s_part rfl rfl rfl ?_ ?_ <;> intro hc <;> (first | replace hc := of_decide_eq_true hc | replace hc := of_decide_eq_false hc | replace hc := eq_of_beq hc | skip))
      | (refine aw_if rfl ?_ ?_ <;> intro hc <;> (first | replace hc := of_decide_eq_true hc | replace hc := of_decide_eq_false hc | replace hc := eq_of_beq hc | skip))
      | refine s_index1 tabOk rfl rfl rfl rfl (by omega) (by omega) ?_)
  exact retK_ret tabOk (congrArg Array.toList Try.results95) (rv_tmp rfl rfl rv_nil) ⟨rfl, rfl⟩
theorem c_impl_RootNumber (x : Nat) : ACalls Try.prog B 47 [.float .f32 x] W (fun v W' => v = .float .f32 (rootN x) ∧ W' = W) := by
  refine acalls_of Try.func47 rfl Try.ntmps47 (Nat.le_of_ble_eq_true rfl) ?_
  repeat' (first
      | refine s_pure tabOk rfl rfl rfl rfl ?_
      | refine aops_nil ?_
      | refine thn_normal ?_
      | refine aw_seq ?_
      | refine aw_reg ?_
      | refine s_pass rfl rfl rfl ?_
      | refine s_len tabOk rfl rfl rfl rfl ?_
      | refine aw_true rfl ?_
      | refine aw_false rfl ?_
      | refine aw_block ?_
      | refine aw_skip ?_
      | refine aw_exit ?_
      | refine blk_exit ?_
      | refine blk_exit_other rfl ?_
      | refine blk_normal ?_
      | refine thn_exit ?_
      | refine thn_ret ?_
      | refine blk_ret ?_
      | refine rnd_ret ?_
      | refine rnd_exit ?_
      | refine aw_ret ?_
      | refine s_arith tabOk rfl rfl rfl rfl (by simp only [InR]; omega) ?_
      | ((fail_if_success refine s_told rfl rfl ?_); refine s_part rfl rfl rfl ?_ ?_ <;> intro hc <;> (first | replace hc := of_decide_eq_true hc | replace hc := of_decide_eq_false hc | replace hc := eq_of_beq hc | skip))
      | (refine aw_if rfl ?_ ?_ <;> intro hc <;> (first | replace hc := of_decide_eq_true hc | replace hc := of_decide_eq_false hc | replace hc := eq_of_beq hc | skip))
      | refine s_index1 tabOk rfl rfl rfl rfl (by omega) (by omega) ?_)
  refine s_call rfl rfl rfl rfl ent95 (c_math_Sqrt _) ?_
  rintro _ _ ⟨rfl, rfl⟩
  repeat' (first
      | refine s_pure tabOk rfl rfl rfl rfl ?_
      | refine aops_nil ?_
      | refine thn_normal ?_
      | refine aw_seq ?_
      | refine aw_reg ?_
      | refine s_pass rfl rfl rfl ?_
      | refine s_len tabOk rfl rfl rfl rfl ?_
      | refine aw_true rfl ?_
      | refine aw_false rfl ?_
      | refine aw_block ?_
      | refine aw_skip ?_
      | refine aw_exit ?_
      | refine blk_exit ?_
      | refine blk_exit_other rfl ?_
      | refine blk_normal ?_
      | refine thn_exit ?_
      | refine thn_ret ?_
      | refine blk_ret ?_
      | refine rnd_ret ?_
      | refine rnd_exit ?_
      | refine aw_ret ?_
      | refine s_arith tabOk rfl rfl rfl rfl (by simp only [InR]; omega) ?_
      | ((fail_if_success refine s_told rfl rfl ?_); refine s_part rfl rfl rfl ?_ ?_ <;> intro hc <;> (first | replace hc := of_decide_eq_true hc | replace hc := of_decide_eq_false hc | replace hc := eq_of_beq hc | skip))
      | (refine aw_if rfl ?_ ?_ <;> intro hc <;> (first | replace hc := of_decide_eq_true hc | replace hc := of_decide_eq_false hc | replace hc := eq_of_beq hc | skip))
      | refine s_index1 tabOk rfl rfl rfl rfl (by omega) (by omega) ?_)
  refine s_narrow tabOk rfl rfl rfl rfl (rootN_conv x) ?_
  repeat' (first
      | refine s_pure tabOk rfl rfl rfl rfl ?_
      | refine aops_nil ?_
      | refine thn_normal ?_
      | refine aw_seq ?_
      | refine aw_reg ?_
      | refine s_pass rfl rfl rfl ?_
      | refine s_len tabOk rfl rfl rfl rfl ?_
      | refine aw_true rfl ?_
      | refine aw_false rfl ?_
      | refine aw_block ?_
      | refine aw_skip ?_
      | refine aw_exit ?_
      | refine blk_exit ?_
      | refine blk_exit_other rfl ?_
      | refine blk_normal ?_
      | refine thn_exit ?_
      | refine thn_ret ?_
      | refine blk_ret ?_
      | refine rnd_ret ?_
      | refine rnd_exit ?_
      | refine aw_ret ?_
      | refine s_arith tabOk rfl rfl rfl rfl (by simp only [InR]; omega) ?_
      | ((fail_if_success refine s_told rfl rfl ?_); refine s_part rfl rfl rfl ?_ ?_ <;> intro hc <;> (first | replace hc := of_decide_eq_true hc | replace hc := of_decide_eq_false hc | replace hc := eq_of_beq hc | skip))
      | (refine aw_if rfl ?_ ?_ <;> intro hc <;> (first | replace hc := of_decide_eq_true hc | replace hc := of_decide_eq_false hc | replace hc := eq_of_beq hc | skip))
      | refine s_index1 tabOk rfl rfl rfl rfl (by omega) (by omega) ?_)
  exact retK_ret tabOk (congrArg Array.toList Try.results47) (rv_tmp rfl rfl rv_nil) ⟨rfl, rfl⟩
theorem c_spec_l01Narrow {x r : Nat} (h : fconv .f64 .f32 x = some r) : ACalls Try.prog B 94 [.float .f64 x] W (fun v W' => v = .float .f32 r ∧ W' = W) := by
  refine acalls_of Try.func94 rfl Try.ntmps94 (Nat.le_of_ble_eq_true rfl) ?_
  repeat' (first
      | refine s_pure tabOk rfl rfl rfl rfl ?_
      | refine aops_nil ?_
      | refine thn_normal ?_
      | refine aw_seq ?_
      | refine aw_reg ?_
      | refine s_pass rfl rfl rfl ?_
      | refine s_len tabOk rfl rfl rfl rfl ?_
      | refine aw_true rfl ?_
      | refine aw_false rfl ?_
      | refine aw_block ?_
      | refine aw_skip ?_
      | refine aw_exit ?_
      | refine blk_exit ?_
      | refine blk_exit_other rfl ?_
      | refine blk_normal ?_
      | refine thn_exit ?_
      | refine thn_ret ?_
      | refine blk_ret ?_
      | refine rnd_ret ?_
      | refine rnd_exit ?_
      | refine aw_ret ?_
      | refine s_arith tabOk rfl rfl rfl rfl (by simp only [InR]; omega) ?_
      | ((fail_if_success refine s_told rfl rfl ?_); refine s_part rfl rfl rfl ?_ ?_ <;> intro hc <;> (first | replace hc := of_decide_eq_true hc | replace hc := of_decide_eq_false hc | replace hc := eq_of_beq hc | skip))
      | (refine aw_if rfl ?_ ?_ <;> intro hc <;> (first | replace hc := of_decide_eq_true hc | replace hc := of_decide_eq_false hc | replace hc := eq_of_beq hc | skip))
      | refine s_index1 tabOk rfl rfl rfl rfl (by omega) (by omega) ?_)
  refine s_narrow tabOk rfl rfl rfl rfl h ?_
  repeat' (first
      | refine s_pure tabOk rfl rfl rfl rfl ?_
      | refine aops_nil ?_
      | refine thn_normal ?_
      | refine aw_seq ?_
      | refine aw_reg ?_
      | refine s_pass rfl rfl rfl ?_
      | refine s_len tabOk rfl rfl rfl rfl ?_
      | refine aw_true rfl ?_
      | refine aw_false rfl ?_
      | refine aw_block ?_
      | refine aw_skip ?_
      | refine aw_exit ?_
      | refine blk_exit ?_
      | refine blk_exit_other rfl ?_
      | refine blk_normal ?_
      | refine thn_exit ?_
      | refine thn_ret ?_
      | refine blk_ret ?_
      | refine rnd_ret ?_
      | refine rnd_exit ?_
      | refine aw_ret ?_
      | refine s_arith tabOk rfl rfl rfl rfl (by simp only [InR]; omega) ?_
      | ((fail_if_success refine s_told rfl rfl ?_); refine s_part rfl rfl rfl ?_ ?_ <;> intro hc <;> (first | replace hc := of_decide_eq_true hc | replace hc := of_decide_eq_false hc | replace hc := eq_of_beq hc | skip))
      | (refine aw_if rfl ?_ ?_ <;> intro hc <;> (first | replace hc := of_decide_eq_true hc | replace hc := of_decide_eq_false hc | replace hc := eq_of_beq hc | skip))
      | refine s_index1 tabOk rfl rfl rfl rfl (by omega) (by omega) ?_)
  exact retK_ret tabOk (congrArg Array.toList Try.results94) (rv_tmp rfl rfl rv_nil) ⟨rfl, rfl⟩
theorem c_spec_l01Sqrt (x : Nat) : ACalls Try.prog B 43 [.float .f32 x] W (fun v W' => v = .float .f32 (rootN x) ∧ W' = W) := by
  refine acalls_of Try.func43 rfl Try.ntmps43 (Nat.le_of_ble_eq_true rfl) ?_
  repeat' (first
      | refine s_pure tabOk rfl rfl rfl rfl ?_
      | refine aops_nil ?_
      | refine thn_normal ?_
      | refine aw_seq ?_
      | refine aw_reg ?_
      | refine s_pass rfl rfl rfl ?_
      | refine s_len tabOk rfl rfl rfl rfl ?_
      | refine aw_true rfl ?_
      | refine aw_false rfl ?_
      | refine aw_block ?_
      | refine aw_skip ?_
      | refine aw_exit ?_
      | refine blk_exit ?_
      | refine blk_exit_other rfl ?_
      | refine blk_normal ?_
      | refine thn_exit ?_
      | refine thn_ret ?_
      | refine blk_ret ?_
      | refine rnd_ret ?_
      | refine rnd_exit ?_
      | refine aw_ret ?_
      | refine s_arith tabOk rfl rfl rfl rfl (by simp only [InR]; omega) ?_
      | ((fail_if_success refine s_told rfl rfl ?_); refine s_part rfl rfl rfl ?_ ?_ <;> intro hc <;> (first | replace hc := of_decide_eq_true hc | replace hc := of_decide_eq_false hc | replace hc := eq_of_beq hc | skip))
      | (refine aw_if rfl ?_ ?_ <;> intro hc <;> (first | replace hc := of_decide_eq_true hc | replace hc := of_decide_eq_false hc | replace hc := eq_of_beq hc | skip))
      | refine s_index1 tabOk rfl rfl rfl rfl (by omega) (by omega) ?_)
  refine s_call rfl rfl rfl rfl ent95 (c_math_Sqrt _) ?_
  rintro _ _ ⟨rfl, rfl⟩
  repeat' (first
      | refine s_pure tabOk rfl rfl rfl rfl ?_
      | refine aops_nil ?_
      | refine thn_normal ?_
      | refine aw_seq ?_
      | refine aw_reg ?_
      | refine s_pass rfl rfl rfl ?_
      | refine s_len tabOk rfl rfl rfl rfl ?_
      | refine aw_true rfl ?_
      | refine aw_false rfl ?_
      | refine aw_block ?_
      | refine aw_skip ?_
      | refine aw_exit ?_
      | refine blk_exit ?_
      | refine blk_exit_other rfl ?_
      | refine blk_normal ?_
      | refine thn_exit ?_
      | refine thn_ret ?_
      | refine blk_ret ?_
      | refine rnd_ret ?_
      | refine rnd_exit ?_
      | refine aw_ret ?_
      | refine s_arith tabOk rfl rfl rfl rfl (by simp only [InR]; omega) ?_
      | ((fail_if_success refine s_told rfl rfl ?_); refine s_part rfl rfl rfl ?_ ?_ <;> intro hc <;> (first | replace hc := of_decide_eq_true hc | replace hc := of_decide_eq_false hc | replace hc := eq_of_beq hc | skip))
      | (refine aw_if rfl ?_ ?_ <;> intro hc <;> (first | replace hc := of_decide_eq_true hc | replace hc := of_decide_eq_false hc | replace hc := eq_of_beq hc | skip))
      | refine s_index1 tabOk rfl rfl rfl rfl (by omega) (by omega) ?_)
  refine s_call rfl rfl rfl rfl ent94 (c_spec_l01Narrow (rootN_conv x)) ?_
  rintro _ _ ⟨rfl, rfl⟩
  repeat' (first
      | refine s_pure tabOk rfl rfl rfl rfl ?_
      | refine aops_nil ?_
      | refine thn_normal ?_
      | refine aw_seq ?_
      | refine aw_reg ?_
      | refine s_pass rfl rfl rfl ?_
      | refine s_len tabOk rfl rfl rfl rfl ?_
      | refine aw_true rfl ?_
      | refine aw_false rfl ?_
      | refine aw_block ?_
      | refine aw_skip ?_
      | refine aw_exit ?_
      | refine blk_exit ?_
      | refine blk_exit_other rfl ?_
      | refine blk_normal ?_
      | refine thn_exit ?_
      | refine thn_ret ?_
      | refine blk_ret ?_
      | refine rnd_ret ?_
      | refine rnd_exit ?_
      | refine aw_ret ?_
      | refine s_arith tabOk rfl rfl rfl rfl (by simp only [InR]; omega) ?_
      | ((fail_if_success refine s_told rfl rfl ?_); refine s_part rfl rfl rfl ?_ ?_ <;> intro hc <;> (first | replace hc := of_decide_eq_true hc | replace hc := of_decide_eq_false hc | replace hc := eq_of_beq hc | skip))
      | (refine aw_if rfl ?_ ?_ <;> intro hc <;> (first | replace hc := of_decide_eq_true hc | replace hc := of_decide_eq_false hc | replace hc := eq_of_beq hc | skip))
      | refine s_index1 tabOk rfl rfl rfl rfl (by omega) (by omega) ?_)
  exact retK_ret tabOk (congrArg Array.toList Try.results43) (rv_tmp rfl rfl rv_nil) ⟨rfl, rfl⟩
end
end Go.Proofs.Ytaiebodmlnpbkaa
