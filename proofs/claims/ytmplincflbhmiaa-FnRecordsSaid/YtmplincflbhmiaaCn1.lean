/- Canonical floats: every not-a-number is one word; the operations on them as plain functions. -/
import Derived.Laws.FloatArith
import Derived.Laws.World
namespace Go.Proofs.Ytmplincflbhmiaa.Cn
set_option linter.unusedSimpArgs false
set_option linter.unusedVariables false
open Go

/-- the one not-a-number of a kind -/
def qnan : FloatKind → Nat
  | .f32 => 2143289344
  | .f64 => 9221120237041090560

/-- a word, each not-a-number by the one -/
def cb (k : FloatKind) (b : Nat) : Nat := if (k.decode b).isNaN then qnan k else b

theorem qnan_nan (k : FloatKind) : (k.decode (qnan k)).isNaN = true := by cases k <;> decide

theorem cb_nan {k : FloatKind} {b : Nat} (h : (k.decode b).isNaN = true) : cb k b = qnan k := by simp [cb, h]
theorem cb_num {k : FloatKind} {b : Nat} (h : (k.decode b).isNaN = false) : cb k b = b := by simp [cb, h]
theorem cb_isNaN (k : FloatKind) (b : Nat) : (k.decode (cb k b)).isNaN = (k.decode b).isNaN := by
  unfold cb
  split
  · rename_i h; rw [qnan_nan, h]
  · rfl
theorem cb_cb (k : FloatKind) (b : Nat) : cb k (cb k b) = cb k b := by
  cases h : (k.decode b).isNaN
  · rw [cb_num h, cb_num h]
  · rw [cb_nan h, cb_nan (qnan_nan k)]

theorem nan_of {d : Ieee.Datum} (h : d.isNaN = true) : ∃ s f, d = .nan s f := by
  cases d <;> simp [Ieee.Datum.isNaN] at h
  exact ⟨_, _, rfl⟩

section two
variable {f : Ieee.Format}
theorem sum_nan_l {x y : Ieee.Datum} (h : x.isNaN = true) : x.sum y = none := by
  obtain ⟨s, t, rfl⟩ := nan_of h; rfl
theorem sum_nan_r {x y : Ieee.Datum} (h : y.isNaN = true) : x.sum y = none := by
  obtain ⟨s, t, rfl⟩ := nan_of h; cases x <;> rfl
theorem product_nan_l {x y : Ieee.Datum} (h : x.isNaN = true) : x.product y = none := by
  obtain ⟨s, t, rfl⟩ := nan_of h; rfl
theorem product_nan_r {x y : Ieee.Datum} (h : y.isNaN = true) : x.product y = none := by
  obtain ⟨s, t, rfl⟩ := nan_of h; cases x <;> rfl
theorem quotient_nan_l {n : Nat} {x y : Ieee.Datum} (h : x.isNaN = true) : x.quotient n y = none := by
  obtain ⟨s, t, rfl⟩ := nan_of h; rfl
theorem quotient_nan_r {n : Nat} {x y : Ieee.Datum} (h : y.isNaN = true) : x.quotient n y = none := by
  obtain ⟨s, t, rfl⟩ := nan_of h; cases x <;> rfl
theorem order_nan_l {x y : Ieee.Datum} (h : x.isNaN = true) : x.order y = none := by
  obtain ⟨s, t, rfl⟩ := nan_of h; rfl
theorem order_nan_r {x y : Ieee.Datum} (h : y.isNaN = true) : x.order y = none := by
  obtain ⟨s, t, rfl⟩ := nan_of h; cases x <;> rfl
theorem opposite_isNaN (x : Ieee.Datum) : x.opposite.isNaN = x.isNaN := by cases x <;> rfl
end two

/-- where an operation gives nothing at a not-a-number, the canonical words serve as well as the words -/
theorem canon2 {α : Type} (k : FloatKind) (F : Ieee.Datum → Ieee.Datum → Option α)
    (hl : ∀ x y, x.isNaN = true → F x y = none) (hr : ∀ x y, y.isNaN = true → F x y = none) (x y : Nat) :
    F (k.decode (cb k x)) (k.decode (cb k y)) = F (k.decode x) (k.decode y) := by
  cases hx : (k.decode x).isNaN
  · cases hy : (k.decode y).isNaN
    · rw [cb_num hx, cb_num hy]
    · rw [hr _ _ hy, hr _ _ (by rw [cb_isNaN]; exact hy)]
  · rw [hl _ _ hx, hl _ _ (by rw [cb_isNaN]; exact hx)]

theorem floatBits_canon (op : BinOp) (k : FloatKind) (x y : Nat) : floatBits op k (cb k x) (cb k y) = floatBits op k x y := by
  cases op <;> simp only [floatBits]
  · exact congrArg (Option.map _) (canon2 k (fun a b => a.sum b) (fun _ _ h => sum_nan_l h) (fun _ _ h => sum_nan_r h) x y)
  · exact congrArg (Option.map _) (canon2 k (fun a b => a.sum b.opposite) (fun _ _ h => sum_nan_l h) (fun _ _ h => sum_nan_r (by rw [opposite_isNaN]; exact h)) x y)
  · exact congrArg (Option.map _) (canon2 k (fun a b => a.product b) (fun _ _ h => product_nan_l h) (fun _ _ h => product_nan_r h) x y)
  · exact congrArg (Option.map _) (canon2 k (fun a b => a.quotient _ b) (fun _ _ h => quotient_nan_l h) (fun _ _ h => quotient_nan_r h) x y)

theorem order_canon (k : FloatKind) (x y : Nat) : k.format.order (cb k x) (cb k y) = k.format.order x y :=
  canon2 k (fun a b => a.order b) (fun _ _ h => order_nan_l h) (fun _ _ h => order_nan_r h) x y

/-- a binary operation on canonical words -/
def fop (op : BinOp) (k : FloatKind) (x y : Nat) : Nat := ((floatBits op k x y).map (cb k)).getD (qnan k)

theorem fop_canon (op : BinOp) (k : FloatKind) (x y : Nat) : fop op k (cb k x) (cb k y) = fop op k x y := by
  unfold fop; rw [floatBits_canon]
theorem fop_some {op : BinOp} {k : FloatKind} {x y r : Nat} (h : floatBits op k x y = some r) : fop op k x y = cb k r := by simp [fop, h]
theorem fop_none {op : BinOp} {k : FloatKind} {x y : Nat} (h : floatBits op k x y = none) : fop op k x y = qnan k := by simp [fop, h]
theorem cb_qnan (k : FloatKind) : cb k (qnan k) = qnan k := cb_nan (qnan_nan k)
theorem cb_fop (op : BinOp) (k : FloatKind) (x y : Nat) : cb k (fop op k x y) = fop op k x y := by
  cases h : floatBits op k x y with
  | none => rw [fop_none h, cb_qnan]
  | some r => rw [fop_some h, cb_cb]

/-- a comparison -/
def fcmp (op : BinOp) (k : FloatKind) (x y : Nat) : Bool :=
  let c := k.format.order x y
  match op with
  | .eql => c == some .eq
  | .neq => c != some .eq
  | .lss => c == some .lt
  | .leq => c == some .lt || c == some .eq
  | .gtr => c == some .gt
  | .geq => c == some .gt || c == some .eq
  | _ => false
theorem fcmp_canon (op : BinOp) (k : FloatKind) (x y : Nat) : fcmp op k (cb k x) (cb k y) = fcmp op k x y := by
  unfold fcmp; rw [order_canon]

/-- what the tape answers where a not-a-number is made -/
theorem cut_nan32 (t : Nat) : (FloatKind.f32.decode ((t % 2) * 2 ^ 31 + 0x7f800000 + 1 + (t / 2) % (2 ^ 23 - 1))).isNaN = true := by
  show (Ieee.Format.read Ieee.single _).isNaN = true
  generalize hm : (t / 2) % (2 ^ 23 - 1) = m
  generalize hs : t % 2 = s
  have h1 : m < 8388607 := by rw [← hm]; exact Nat.mod_lt _ (by decide)
  have h2 : s < 2 := by rw [← hs]; exact Nat.mod_lt _ (by decide)
  have hsw : Ieee.single.signWeight = 2147483648 := by decide
  have hbi : Ieee.single.binade = 8388608 := by decide
  have hin : Ieee.single.infRung = 2139095040 := by decide
  have hr : (s * 2 ^ 31 + 0x7f800000 + 1 + m) % 2147483648 = 2139095041 + m := by omega
  simp only [Ieee.Format.read, hsw, hbi, hin, hr]
  rw [if_neg (by omega), if_neg (by omega), if_neg (by omega)]
  rfl
theorem cut_nan64 (t : Nat) : (FloatKind.f64.decode ((t % 2) * 2 ^ 63 + 0x7ff0000000000000 + 1 + (t / 2) % (2 ^ 52 - 1))).isNaN = true := by
  show (Ieee.Format.read Ieee.double _).isNaN = true
  generalize hm : (t / 2) % (2 ^ 52 - 1) = m
  generalize hs : t % 2 = s
  have h1 : m < 4503599627370495 := by rw [← hm]; exact Nat.mod_lt _ (by decide)
  have h2 : s < 2 := by rw [← hs]; exact Nat.mod_lt _ (by decide)
  have hsw : Ieee.double.signWeight = 9223372036854775808 := by decide
  have hbi : Ieee.double.binade = 4503599627370496 := by decide
  have hin : Ieee.double.infRung = 9218868437227405312 := by decide
  have hr : (s * 2 ^ 63 + 0x7ff0000000000000 + 1 + m) % 9223372036854775808 = 9218868437227405313 + m := by omega
  simp only [Ieee.Format.read, hsw, hbi, hin, hr]
  rw [if_neg (by omega), if_neg (by omega), if_neg (by omega)]
  rfl

/-- the opposite -/
def fneg (k : FloatKind) (x : Nat) : Nat := cb k (Op.negFloat k x)

theorem negFloat_rung (k : FloatKind) (b : Nat) : Op.negFloat k b % k.format.signWeight = b % k.format.signWeight := by
  unfold Op.negFloat Ieee.Format.signWeight
  rw [Nat.xor_mod_two_pow, Nat.mod_self, Nat.xor_zero]
theorem isNaN_rung (f : Ieee.Format) (b : Nat) : (f.read b).isNaN = decide (¬ (b % f.signWeight < f.binade) ∧ ¬ (b % f.signWeight < f.infRung) ∧ ¬ (b % f.signWeight = f.infRung)) := by
  unfold Ieee.Format.read
  by_cases h1 : b % f.signWeight < f.binade
  · simp [h1, Ieee.Datum.isNaN]
  · by_cases h2 : b % f.signWeight < f.infRung
    · simp [h1, h2, Ieee.Datum.isNaN]
    · by_cases h3 : b % f.signWeight = f.infRung
      · simp only [h3] at h1 h2 ⊢; simp [h1, Ieee.Datum.isNaN]
      · simp [h1, h2, h3, Ieee.Datum.isNaN]
theorem negFloat_isNaN (k : FloatKind) (b : Nat) : (k.decode (Op.negFloat k b)).isNaN = (k.decode b).isNaN := by
  show (k.format.read _).isNaN = (k.format.read _).isNaN
  rw [isNaN_rung, isNaN_rung, negFloat_rung]
theorem fneg_canon (k : FloatKind) (b : Nat) : fneg k (cb k b) = fneg k b := by
  unfold fneg
  cases h : (k.decode b).isNaN
  · rw [cb_num h]
  · rw [cb_nan h, cb_nan (by rw [negFloat_isNaN]; exact qnan_nan k), cb_nan (by rw [negFloat_isNaN]; exact h)]

/-- from one kind to the other; nothing where the language leaves the result open -/
def fconv (src dst : FloatKind) (x : Nat) : Option Nat :=
  if src = dst then some (cb dst x) else
  match src.decode x with
  | .nan _ _ => some (qnan dst)
  | .infinity s => some (cb dst (dst.encode (.infinity s)))
  | .number s m e => if (dst.decode (dst.encode (.number s m e))).isInfinity then none else some (cb dst (dst.encode (.number s m e)))
theorem fconv_canon (src dst : FloatKind) (x : Nat) : fconv src dst (cb src x) = fconv src dst x := by
  unfold fconv
  cases h : (src.decode x).isNaN
  · rw [cb_num h]
  · rw [cb_nan h]
    split
    · rename_i e; subst e; rw [cb_qnan, cb_nan h]
    · obtain ⟨s, t, e⟩ := nan_of h
      obtain ⟨s', t', e'⟩ := nan_of (qnan_nan src)
      rw [e, e']

/-- the greater, the lesser -/
def fmax (k : FloatKind) (x y : Nat) : Nat :=
  match k.format.order x y with
  | none => qnan k
  | some .lt => y
  | some .gt => x
  | some .eq => if (k.decode x).neg then y else x
def fmin (k : FloatKind) (x y : Nat) : Nat :=
  match k.format.order x y with
  | none => qnan k
  | some .lt => x
  | some .gt => y
  | some .eq => if (k.decode x).neg then x else y
theorem order_some_num {k : FloatKind} {x y : Nat} {o : Ordering} (h : k.format.order x y = some o) : (k.decode x).isNaN = false ∧ (k.decode y).isNaN = false := by
  constructor
  · cases hx : (k.decode x).isNaN
    · rfl
    · have : k.format.order x y = none := order_nan_l hx
      rw [this] at h; cases h
  · cases hx : (k.decode y).isNaN
    · rfl
    · have : k.format.order x y = none := order_nan_r hx
      rw [this] at h; cases h
theorem fmax_canon (k : FloatKind) (x y : Nat) : fmax k (cb k x) (cb k y) = cb k (fmax k x y) := by
  unfold fmax
  rw [order_canon]
  cases h : k.format.order x y with
  | none => simp [cb_qnan]
  | some o =>
    obtain ⟨hx, hy⟩ := order_some_num h
    rw [cb_num hx, cb_num hy]
    cases o <;> simp only [cb_num hx, cb_num hy]
    split <;> simp [cb_num hx, cb_num hy]
theorem fmin_canon (k : FloatKind) (x y : Nat) : fmin k (cb k x) (cb k y) = cb k (fmin k x y) := by
  unfold fmin
  rw [order_canon]
  cases h : k.format.order x y with
  | none => simp [cb_qnan]
  | some o =>
    obtain ⟨hx, hy⟩ := order_some_num h
    rw [cb_num hx, cb_num hy]
    cases o <;> simp only [cb_num hx, cb_num hy]
    split <;> simp [cb_num hx, cb_num hy]

/-- an integer's nearest float -/
def fint (k : FloatKind) (n : Int) : Nat := cb k (k.nearest n)
attribute [irreducible] cb fop fcmp fneg fconv fmax fmin fint
end Go.Proofs.Ytmplincflbhmiaa.Cn
