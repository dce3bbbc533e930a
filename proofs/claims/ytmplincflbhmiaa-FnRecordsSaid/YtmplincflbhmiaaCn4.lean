/- The value of an operation that touches no memory, as one function of the frame; whole numbers with their bounds; indexes; slices cut. -/
import Derived.Test.YtmplincflbhmiaaCn3
namespace Go.Proofs.Ytmplincflbhmiaa.Cn
set_option linter.unusedSimpArgs false
set_option linter.unusedVariables false
open Go Go.RowKit

theorem cb_of_cv {u : Value} {k : FloatKind} {x : Nat} (h : cv u = .float k x) : cb k x = x := by
  obtain ⟨b, -, rfl⟩ := cv_float h
  exact cb_cb k b

/-- from 32 to 64 bits -/
def fwide (x : Nat) : Nat := (fconv .f32 .f64 x).getD 0
theorem log2_lt24 {m : Nat} (h : m < 16777216) : m.log2 < 24 := by
  by_cases h0 : m = 0
  · subst h0; decide
  · exact (Nat.log2_lt h0).2 h

/-- a number of 24 digits at the places of a 32-bit number is no infinity in 64 bits -/
theorem wide_finite (s : Bool) (m : Nat) (e : Int) (hm : m < 16777216) (he : -149 ≤ e) (he' : e ≤ 104) : (FloatKind.f64.decode (FloatKind.f64.encode (.number s m e))).isInfinity = false := by
  show (Ieee.Format.read Ieee.double (Ieee.Format.nearest Ieee.double s m e)).isInfinity = false
  unfold Ieee.Format.nearest
  have hsw : Ieee.double.signWeight = 9223372036854775808 := by decide
  have hbi : Ieee.double.binade = 4503599627370496 := by decide
  have hin : Ieee.double.infRung = 9218868437227405312 := by decide
  have hlp : Ieee.double.leastPlace = -1074 := by decide
  have hfb : Ieee.double.fractionBits = 52 := rfl
  split
  · rename_i h0
    cases s <;> decide
  · rename_i h0
    have hl := log2_lt24 hm
    rw [hlp, hfb, hbi, hin]
    have hlast : max (e + (m.log2 : Int) - ((52 : Nat) : Int)) (-1074) = e + (m.log2 : Int) - 52 := by omega
    have h1 : (e - (e + (m.log2 : Int) - 52)).toNat = 52 - m.log2 := by omega
    have h2 : ((e + (m.log2 : Int) - 52) - e).toNat = 0 := by omega
    dsimp only
    rw [hlast, h1, h2]
    have hcut : Ieee.Toward.even.cut s (m <<< (52 - m.log2)) 0 = m <<< (52 - m.log2) := by
      simp [Ieee.Toward.cut, Nat.mod_one]
    rw [hcut]
    have hk : m <<< (52 - m.log2) < 9007199254740992 := by
      rw [Nat.shiftLeft_eq]
      have h3 : m < 2 ^ (m.log2 + 1) := Nat.lt_log2_self
      calc m * 2 ^ (52 - m.log2) < 2 ^ (m.log2 + 1) * 2 ^ (52 - m.log2) := Nat.mul_lt_mul_of_pos_right h3 (Nat.two_pow_pos _)
        _ = 2 ^ 53 := by rw [← Nat.pow_add]; congr 1; omega
    have hr : ((e + (m.log2 : Int) - 52) - (-1074)).toNat * 4503599627370496 + m <<< (52 - m.log2) < 9218868437227405312 := by
      have : ((e + (m.log2 : Int) - 52) - (-1074)).toNat ≤ 1149 := by omega
      omega
    rw [Nat.min_eq_left (by omega)]
    generalize ((e + (m.log2 : Int) - 52) - (-1074)).toNat * 4503599627370496 + m <<< (52 - m.log2) = r at *
    have hmod : (Ieee.double.word s r) % 9223372036854775808 = r := by
      cases s <;> simp only [Ieee.Format.word, hsw] <;> simp <;> omega
    unfold Ieee.Format.read
    rw [hsw, hmod, hbi, hin]
    dsimp only
    split
    · rfl
    · rfl

theorem read32_number {x : Nat} {s : Bool} {m : Nat} {e : Int} (h : FloatKind.f32.decode x = .number s m e) : m < 16777216 ∧ -149 ≤ e ∧ e ≤ 104 := by
  have h' : Ieee.Format.read Ieee.single x = .number s m e := h
  have hsw : Ieee.single.signWeight = 2147483648 := by decide
  have hbi : Ieee.single.binade = 8388608 := by decide
  have hin : Ieee.single.infRung = 2139095040 := by decide
  have hlp : Ieee.single.leastPlace = -149 := by decide
  unfold Ieee.Format.read at h'
  rw [hsw, hbi, hin, hlp] at h'
  simp only at h'
  split at h'
  · cases h'; omega
  · split at h'
    · rename_i h1 h2
      cases h'
      have : x % 2147483648 / 8388608 ≤ 254 := by omega
      omega
    · split at h' <;> cases h'
theorem fconv_wide (x : Nat) : fconv .f32 .f64 x = some (fwide x) := by
  unfold fwide
  cases h : fconv .f32 .f64 x with
  | some r => rfl
  | none =>
    unfold fconv at h
    rw [if_neg (by decide)] at h
    split at h
    · cases h
    · cases h
    · rename_i s m e hd
      obtain ⟨h1, h2, h3⟩ := read32_number hd
      rw [wide_finite s m e h1 h2 h3] at h
      simp at h

/-- no tuple -/
def plain : Value → Option Value
  | .tuple _ => none
  | v => some v
def ptrs : List (Option Value) → Option (List Value)
  | [] => some []
  | some (.pointer a) :: r => match ptrs r with
    | some l => some (.pointer a :: l)
    | none => none
  | _ => none

def nthL {α : Type} : List α → Nat → Option α
  | [], _ => none
  | x :: r, i => match i with
    | 0 => some x
    | j + 1 => nthL r j
theorem nthL_eq {α : Type} : ∀ (l : List α) (i : Nat), nthL l i = l[i]?
  | [], _ => rfl
  | _ :: _, 0 => rfl
  | _ :: r, j + 1 => by simpa [nthL] using nthL_eq r j
def nthA {α : Type} (a : Array α) (i : Nat) : Option α := match a with
  | ⟨l⟩ => nthL l i
theorem nthA_eq {α : Type} (a : Array α) (i : Nat) : nthA a i = a[i]? := by
  obtain ⟨l⟩ := a
  simp [nthA, nthL_eq]
/-- the value of an operation that touches no memory -/
def evP (T : Tab) (E : Env) (o : Oper) : Option Value :=
  match o.op with
  | .move x => ev E x
  | .assign x => ev E x
  | .pick c a b => match ev E c with
    | some (.bool true) => ev E a
    | some (.bool false) => ev E b
    | _ => none
  | .binOp op t x y _ => match ev E x with
    | some u => match ev E y with
      | some v => binV T op t u v
      | none => none
    | none => none
  | .unOp op _ x => match op with
    | .not => match ev E x with
      | some (.bool b) => some (.bool (!b))
      | _ => none
    | .neg => match ev E x with
      | some (.float k b) => some (.float k (fneg k b))
      | _ => none
    | _ => none
  | .convert s d x => match T.at s with
    | some _ => match T.at d with
      | some ⟨.float k, _, _, _⟩ => match ev E x with
        | some (.int _ n) => some (.float k (fint k n))
        | some (.float .f32 b) => match k with
          | .f64 => some (.float .f64 (fwide b))
          | .f32 => some (.float .f32 b)
        | some (.float .f64 b) => match k with
          | .f64 => some (.float .f64 b)
          | .f32 => none
        | _ => none
      | _ => none
    | none => none
  | .fieldAddr s x f => match T.at s with
    | some ⟨.struct fs, _, _, _⟩ => match ev E x with
      | some (.pointer (some ⟨b, off, none⟩)) => match nthA fs f with
        | some fd => match T.at fd.type with
          | some ⟨_, _ + 1, _, _⟩ => some (.pointer (some ⟨b, off + fd.offset, none⟩))
          | _ => none
        | none => none
      | _ => none
    | _ => none
  | .extract x i => match ev E x with
    | some (.tuple vs) => match nthA vs i with
      | some v => plain v
      | none => none
    | _ => none
  | .nilCheck x => match ev E x with
    | some (.pointer (some a)) => some (.pointer (some a))
    | _ => none
  | .makeFunc fn first captured => match first.toList with
    | [] => match ptrs (captured.toList.map (ev E)) with
      | some l => some (.func fn #[] l.toArray)
      | none => none
    | _ => none
  | _ => none

section
variable {P : Program} {N B : Nat} {E : Env} {W : World}

theorem ptrs_sound {a : Act} (ha : EnvR E N a) : ∀ (xs : List Operand) (l : List Value), ptrs (xs.map (ev E)) = some l → xs.map a.eval = l := by
  intro xs
  induction xs with
  | nil => intro l h; simp [ptrs] at h; simp [h]
  | cons x xs ih =>
    intro l h
    simp only [List.map_cons] at h
    unfold ptrs at h
    split at h
    · rename_i hh; cases hh
    · rename_i a' r heq
      injection heq with e1 e2
      subst e2
      split at h
      · rename_i l' hl'
        cases h
        have hx := cv_pointer (ev_sound ha e1)
        simp [hx, ih l' hl']
      · cases h
    · cases h

theorem fieldPlace_run {T : Tab} (hT : TabOk P T) {fd : Field} {d : TypeDesc} {n by_ : Nat} {z : Value} (h : T.at fd.type = some ⟨d, n + 1, by_, z⟩) (b off : Nat) (w : World) :
    (fieldPlace ⟨b, off, none⟩ fd).run P w = .ok ⟨b, off + fd.offset, none⟩ w := by
  obtain ⟨-, i, hi, hs, -⟩ := hT _ _ h
  have hs' : i.size ≠ 0 := by rw [hs]; simp
  simp [fieldPlace, sizeOf, typeInfo, hi, hs', Addr.add_lit]

theorem gives_evP {T : Tab} (hT : TabOk P T) {o : Oper} {v : Value} (h : evP T E o = some v) : Gives P N B o E W v W := by
  unfold evP at h
  split at h
  · -- move
    rename_i x ho
    exact gives_of fun a w ha hw hB => ⟨a.eval x, w, by simp [execOp, ho], ev_sound ha h, rfl⟩
  · rename_i x ho
    exact gives_of fun a w ha hw hB => ⟨a.eval x, w, by simp [execOp, ho], ev_sound ha h, rfl⟩
  · rename_i c x y ho
    refine gives_of fun a w ha hw hB => ?_
    split at h
    · rename_i hc
      have := cv_bool (ev_sound ha hc)
      exact ⟨a.eval x, w, by simp [execOp, ho, this, asBool], ev_sound ha h, rfl⟩
    · rename_i hc
      have := cv_bool (ev_sound ha hc)
      exact ⟨a.eval y, w, by simp [execOp, ho, this, asBool], ev_sound ha h, rfl⟩
    · cases h
  · rename_i op t x y yt ho
    split at h
    · rename_i u hu
      split at h
      · rename_i v' hv
        exact gives_bin hT ho hu hv h
      · cases h
    · cases h
  · rename_i op t x ho
    refine gives_of fun a w ha hw hB => ?_
    split at h
    · split at h
      · rename_i b hb
        have := cv_bool (ev_sound ha hb)
        cases h
        exact ⟨.bool (!b), w, by simp [execOp, ho, this, Op.unary], rfl, rfl⟩
      · cases h
    · split at h
      · rename_i k b hb
        obtain ⟨b', e1, e2⟩ := cv_float (ev_sound ha hb)
        cases h
        exact ⟨.float k (Op.negFloat k b'), w, by simp [execOp, ho, e1, Op.unary], by rw [← e2, fneg_canon]; simp [cv, c1, cl, fneg], rfl⟩
      · cases h
    · cases h
  · rename_i s d x ho
    split at h
    · rename_i ts hs
      obtain ⟨hus, -⟩ := hT _ _ hs
      split at h
      · rename_i k sz by_ z hd
        obtain ⟨hud, -⟩ := hT _ _ hd
        simp only at hud
        refine gives_of fun a w ha hw hB => ?_
        have hconv : ∀ (s' : FloatKind) (b r : Nat), ev E x = some (.float s' b) → fconv s' k b = some r → ∃ u w', (execOp a.eval o).run P w = .ok (.value u) w' ∧ cv u = .float k r ∧ cw B w' = cw B w := by
          intro s' b r hx hf
          obtain ⟨b', e1, e2⟩ := cv_float (ev_sound ha hx)
          rw [← e2, fconv_canon] at hf
          obtain ⟨q, w', hr, hc, hw'⟩ := run_fconv (P := P) hf w
          refine ⟨.float k q, w', ?_, by rw [← hc]; rfl, by rcases hw' with rfl | rfl <;> rfl⟩
          simp only [execOp, ho, e1]
          refine run_v ?_
          simp [convert, run_underlying hus, run_underlying hud]
          generalize ts.d = dd at *
          cases dd <;> simp [hr]
        split at h
        · rename_i k' n hx
          have := cv_int (ev_sound ha hx)
          cases h
          refine ⟨.float k (k.nearest n), w, ?_, by simp [cv, c1, cl, fint], rfl⟩
          simp only [execOp, ho, this]
          refine run_v ?_
          simp [convert, run_underlying hus, run_underlying hud]
          generalize ts.d = dd at *
          cases dd <;> simp [Conv.intToFloat]
        · rename_i b hx
          cases k with
          | f64 => simp only at h; cases h; exact hconv .f32 b _ hx (fconv_wide b)
          | f32 => simp only at h; cases h; exact hconv .f32 b _ hx (by simp [fconv, cb_of_cv (ev_sound ha hx)])
        · rename_i b hx
          cases k with
          | f64 => simp only at h; cases h; exact hconv .f64 b _ hx (by simp [fconv, cb_of_cv (ev_sound ha hx)])
          | f32 => cases h
        · cases h
      · cases h
    · cases h
  · rename_i s x f ho
    split at h
    · rename_i fs sz by_ z hs
      obtain ⟨hus, -⟩ := hT _ _ hs
      simp only at hus
      split at h
      · rename_i b off hx
        split at h
        · rename_i fd hfd
          rw [nthA_eq] at hfd
          split at h
          · rename_i dd nn by2 zz hft
            cases h
            refine gives_of fun a w ha hw hB => ?_
            have := cv_pointer (ev_sound ha hx)
            refine ⟨.pointer (some ⟨b, off + fd.offset, none⟩), w, ?_, rfl, rfl⟩
            simp only [execOp, ho, this]
            refine run_v ?_
            have hp := fieldPlace_run hT hft b off w
            simp [Instr.fieldAt, run_underlying hus, hfd, Instr.sureAddr, hp]
          · cases h
        · cases h
      · cases h
    · cases h
  · rename_i x i ho
    refine gives_of fun a w ha hw hB => ?_
    split at h
    · rename_i vs hx
      split at h
      · rename_i v' hv
        rw [nthA_eq] at hv
        obtain ⟨ds, e1, e2⟩ := cv_tuple (ev_sound ha hx)
        rw [← e2, Array.getElem?_map] at hv
        cases hd : ds[i]? with
        | none => rw [hd] at hv; cases hv
        | some u =>
          rw [hd] at hv
          simp only [Option.map_some] at hv
          cases hv
          refine ⟨u, w, by simp [execOp, ho, e1, Instr.extract, hd], ?_, rfl⟩
          cases u <;> simp [c1, cl, plain] at h <;> subst h <;> rfl
      · cases h
    · cases h
  · rename_i x ho
    refine gives_of fun a w ha hw hB => ?_
    split at h
    · rename_i ad hx
      have := cv_pointer (ev_sound ha hx)
      cases h
      exact ⟨_, w, by simp [execOp, ho, this]; rfl, rfl, rfl⟩
    · cases h
  · rename_i fn first captured ho
    refine gives_of fun a w ha hw hB => ?_
    split at h
    · rename_i hf
      split at h
      · rename_i l hl
        cases h
        have hm := ptrs_sound ha captured.toList l hl
        have hf' : first = #[] := by simpa using hf
        have : captured.map a.eval = l.toArray := by
          apply Array.toList_inj.1
          rw [Array.toList_map, hm]
        exact ⟨.func fn #[] l.toArray, w, by simp [execOp, ho, Instr.makeFunc, this, hf'], rfl, rfl⟩
      · cases h
    · cases h
  · cases h

theorem aops_pure {T : Tab} (hT : TabOk P T) {ops : Array Oper} {K : Exit → Env → World → Prop} {i : Nat} {rest : List Nat} {o : Oper} {v : Value} (ho : ops[i]? = some o) (hg : guardE ops o E = some true) (hd : dstOk N o.dst = true)
    (hv : evP T E o = some v) (k : AOps P N B ops rest K (putE E o.dst v) W) : AOps P N B ops (i :: rest) K E W :=
  aops_gives ho hg hd (gives_evP hT hv) k
end
attribute [irreducible] fwide
end Go.Proofs.Ytmplincflbhmiaa.Cn
