/- Bytes to numbers: both ways. -/
import Derived.Test.YtmplincflbhmiaaXFb
import Derived.Test.YtmplincflbhmiaaXCt
import Derived.Test.YtmplincflbhmiaaXHi
import Derived.Test.YtmplincflbhmiaaXFn
import Derived.Test.YtmplincflbhmiaaXFj
namespace Go.Proofs.Ytmplincflbhmiaa
set_option linter.unusedSimpArgs false
set_option linter.unusedVariables false
open Go Cn Go.RowKit
/-- the bytes of a text -/
def bL (s : ByteArray) : List Nat := (List.range s.size).map (bt s)
theorem bL_len (s : ByteArray) : (bL s).length = s.size := by simp [bL]
theorem bL_get {s : ByteArray} {i : Nat} (h : i < s.size) : (bL s)[i]'(by rw [bL_len]; exact h) = bt s i := by simp [bL]
theorem bL_nums {xs : List Int} (h : ∀ x ∈ xs, 0 ≤ x ∧ x < 256) : bL (strOfNums xs) = xs.map Int.toNat := by
  apply List.ext_getElem
  · rw [bL_len, strOfNums_size]; simp
  · intro i h1 h2
    have hi : i < xs.length := by rw [bL_len, strOfNums_size] at h1; exact h1
    rw [bL_get (by rw [strOfNums_size]; exact hi)]
    have hx := h _ (List.getElem_mem hi)
    simp only [bt, strOfNums_data, List.getElem_map]
    simp [hi]
    omega
theorem byts_rng : ∀ (k z : Nat), z < 128 ^ (k + 1) → ∀ x ∈ byts z, 0 ≤ x ∧ x < 256
  | 0, z, h => by
    rw [byts_lo (by simpa using h)]
    intro x hx
    simp at hx h
    omega
  | k + 1, z, h => by
    by_cases h0 : z < 128
    · rw [byts_lo h0]
      intro x hx
      simp at hx; omega
    · rw [byts_hi h0]
      have h1 : z / 128 < 128 ^ (k + 1) := by
        rw [Nat.div_lt_iff_lt_mul (by decide)]
        rw [Nat.pow_succ] at h; exact h
      intro x hx
      rcases List.mem_cons.1 hx with rfl | hx
      · omega
      · exact byts_rng k _ h1 x hx
theorem packTo_rng (xs : List Nat) : ∀ i, ∀ x ∈ packTo xs i, 0 ≤ x ∧ x < 256
  | 0 => by rw [packTo_zero]; simp
  | i + 1 => by
    rw [packTo_succ]
    intro x hx
    rcases List.mem_append.1 hx with h | h
    · exact packTo_rng xs i x h
    · exact byts_rng 4 _ (Nat.lt_of_lt_of_le (zig_lt _ _) (by decide)) x h
/-- what a group tells -/
def unz (z : Nat) : Int := if z % 2 = 1 then -(((z + 1) / 2 : Nat) : Int) else ((z / 2 : Nat) : Int)
theorem unz_zig {b p : Int} (hb : 0 ≤ b ∧ b < 4294967296) (hp : 0 ≤ p ∧ p < 4294967296) : (p + unz (zig b p)) % 4294967296 = b := by
  unfold unz
  by_cases h : (b - p + 4294967296) % 4294967296 ≥ 2147483648
  · have := zig_hi h
    split <;> omega
  · have := zig_lo h
    split <;> omega
theorem cb_word {x : Nat} (hc : cb .f32 x = x) : cb .f32 (wordOf x).toNat = x := by
  unfold wordOf
  rw [neq_self]
  split
  · rename_i h
    have h2 : cb .f32 x = qnan .f32 := cb_nan h
    rw [hc] at h2
    rw [h2]
    exact cb_nan (qnan_nan .f32)
  · rw [Int.toNat_natCast]; exact hc
structure USt where
  out : List Nat
  pv : Int
  n : Nat
  sh : Nat
def uPv (st : USt) (b : Nat) : Int := (st.pv + unz (st.n + b * 2 ^ st.sh)) % 4294967296
def uStep (lim : Nat) (b : Nat) (st : USt) : Option USt :=
  if 128 ≤ b then (if lim < st.sh + 7 then none else some ⟨st.out, st.pv, st.n + (b - 128) * 2 ^ st.sh, st.sh + 7⟩)
  else if 128 < st.out.length + 1 then none else some ⟨st.out ++ [cb .f32 (uPv st b).toNat], uPv st b, 0, 0⟩
def uRun (lim : Nat) : List Nat → USt → Option USt
  | [], st => some st
  | b :: bs, st => match uStep lim b st with
    | some st' => uRun lim bs st'
    | none => none
theorem uRun_append (lim : Nat) : ∀ (cs bs : List Nat) (st : USt), uRun lim (cs ++ bs) st = match uRun lim cs st with
    | some st' => uRun lim bs st'
    | none => none
  | [], bs, st => rfl
  | a :: cs, bs, st => by
    simp only [List.cons_append, uRun]
    cases uStep lim a st with
    | none => rfl
    | some st' => exact uRun_append lim cs bs st'
def u0 : USt := ⟨[], 0, 0, 0⟩
def uTo (lim : Nat) (s : ByteArray) (i : Nat) : Option USt := uRun lim ((bL s).take i) u0
theorem uTo_zero (lim : Nat) (s : ByteArray) : uTo lim s 0 = some u0 := rfl
theorem uTo_succ {lim : Nat} {s : ByteArray} {i : Nat} (h : i < s.size) : uTo lim s (i + 1) = match uTo lim s i with
    | some st => uStep lim (bt s i) st
    | none => none := by
  unfold uTo
  rw [List.take_succ_eq_append_getElem (by rw [bL_len]; exact h), bL_get h, uRun_append]
  cases uRun lim ((bL s).take i) u0 with
  | none => rfl
  | some st =>
    simp only [uRun]
    cases uStep lim (bt s i) st <;> rfl
theorem uTo_none {lim : Nat} {s : ByteArray} {i : Nat} (h : uTo lim s i = none) : ∀ j, i ≤ j → j ≤ s.size → uTo lim s j = none := by
  intro j hj hs
  unfold uTo at h ⊢
  have e : (bL s).take j = (bL s).take i ++ ((bL s).take j).drop i := by
    conv => lhs; rw [← List.take_append_drop i ((bL s).take j)]
    rw [List.take_take, Nat.min_eq_left hj]
  rw [e, uRun_append, h]
/-- what always holds of the state -/
structure UInv (lim : Nat) (st : USt) : Prop where
  ol : st.out.length ≤ 128
  oc : ∀ x ∈ st.out, cb .f32 x = x
  ob : ∀ x ∈ st.out, x < 4294967296
  pr : 0 ≤ st.pv ∧ st.pv < 4294967296
  nr : st.n < 2 ^ st.sh
  sr : st.sh ≤ lim
theorem u0_inv (lim : Nat) : UInv lim u0 := ⟨by simp [u0], by simp [u0], by simp [u0], by simp [u0], by simp [u0], by simp [u0]⟩
theorem cbLt {x : Nat} (h : x < 4294967296) : cb .f32 x < 4294967296 := by
  unfold cb; split
  · decide
  · exact h
theorem UInv.step {lim b : Nat} {st st' : USt} (h : UInv lim st) (hb : b < 256) (e : uStep lim b st = some st') : UInv lim st' := by
  unfold uStep at e
  split at e
  · split at e
    · cases e
    · cases e
      refine ⟨h.ol, h.oc, h.ob, h.pr, ?_, by dsimp only; omega⟩
      have := h.nr
      have h2 : (b - 128) * 2 ^ st.sh ≤ 127 * 2 ^ st.sh := Nat.mul_le_mul_right _ (by omega)
      have h3 : 2 ^ (st.sh + 7) = 128 * 2 ^ st.sh := by rw [Nat.pow_add]; omega
      dsimp only
      rw [h3]; omega
  · split at e
    · cases e
    · cases e
      have hp : 0 ≤ uPv st b ∧ uPv st b < 4294967296 := by unfold uPv; omega
      refine ⟨by simp; omega, ?_, ?_, hp, by simp, by simp⟩
      · intro x hx
        rcases List.mem_append.1 hx with h1 | h1
        · exact h.oc x h1
        · rw [List.mem_singleton.1 h1, cb_cb]
      · intro x hx
        rcases List.mem_append.1 hx with h1 | h1
        · exact h.ob x h1
        · rw [List.mem_singleton.1 h1]; exact cbLt (by omega)
theorem uTo_inv {lim : Nat} {s : ByteArray} : ∀ {i : Nat} {st : USt}, i ≤ s.size → uTo lim s i = some st → UInv lim st
  | 0, st, _, h => by rw [uTo_zero] at h; cases h; exact u0_inv lim
  | i + 1, st, hi, h => by
    rw [uTo_succ hi] at h
    cases hq : uTo lim s i with
    | none => rw [hq] at h; cases h
    | some st1 =>
      rw [hq] at h
      exact (uTo_inv (by omega) hq).step (bt_lt s i) h
/-- a group read -/
theorem uRun_byts (lim : Nat) : ∀ (k z : Nat) (st : USt) (rest : List Nat), z < 128 ^ (k + 1) → st.sh + 7 * k ≤ lim → st.out.length < 128 →
    uRun lim ((byts z).map Int.toNat ++ rest) st = uRun lim rest ⟨st.out ++ [cb .f32 (uPv st z).toNat], uPv st z, 0, 0⟩ := by
  intro k
  induction k with
  | zero =>
    intro z st rest hz hs ho
    have hz : z < 128 := by simpa using hz
    rw [byts_lo hz]
    simp only [List.map_cons, List.map_nil, List.cons_append, List.nil_append, uRun, Int.toNat_natCast]
    unfold uStep
    rw [if_neg (by omega), if_neg (by omega)]
  | succ k ih =>
    intro z st rest hz hs ho
    by_cases h0 : z < 128
    · rw [byts_lo h0]
      simp only [List.map_cons, List.map_nil, List.cons_append, List.nil_append, uRun, Int.toNat_natCast]
      unfold uStep
      rw [if_neg (by omega), if_neg (by omega)]
    · have h1 : z / 128 < 128 ^ (k + 1) := by
        rw [Nat.div_lt_iff_lt_mul (by decide)]
        rw [Nat.pow_succ] at hz; exact hz
      rw [byts_hi h0]
      simp only [List.map_cons, List.cons_append, uRun, Int.toNat_natCast]
      have e : uStep lim (z % 128 + 128) st = some ⟨st.out, st.pv, st.n + (z % 128) * 2 ^ st.sh, st.sh + 7⟩ := by
        unfold uStep
        rw [if_pos (by omega), if_neg (by omega), Nat.add_sub_cancel]
      rw [e]
      simp only
      rw [ih (z / 128) ⟨st.out, st.pv, st.n + (z % 128) * 2 ^ st.sh, st.sh + 7⟩ rest h1 (by dsimp only; omega) ho]
      have e2 : uPv ⟨st.out, st.pv, st.n + (z % 128) * 2 ^ st.sh, st.sh + 7⟩ (z / 128) = uPv st z := by
        unfold uPv
        dsimp only
        have h3 : 2 ^ (st.sh + 7) = 128 * 2 ^ st.sh := by rw [Nat.pow_add]; omega
        have h4 : st.n + z % 128 * 2 ^ st.sh + z / 128 * 2 ^ (st.sh + 7) = st.n + z * 2 ^ st.sh := by
          rw [h3, ← Nat.mul_assoc, Nat.add_assoc, ← Nat.add_mul]
          congr 2; omega
        rw [h4]
      rw [e2]
theorem uRun_pack {lim : Nat} (hl : 28 ≤ lim) {xs : List Nat} (hx : xs.length ≤ 128) (hc : ∀ x ∈ xs, cb .f32 x = x) (hb : ∀ x ∈ xs, x < 4294967296) : ∀ i, i ≤ xs.length → uRun lim ((packTo xs i).map Int.toNat) u0 = some ⟨xs.take i, prevW xs i, 0, 0⟩
  | 0, _ => by rw [packTo_zero, prevW_zero]; rfl
  | i + 1, hi => by
    have hm : xs.getD i 0 ∈ xs := by rw [List.getD_eq_getElem?_getD, List.getElem?_eq_getElem hi]; exact List.getElem_mem hi
    have hw := wordOf_range (hb _ hm)
    have hp : 0 ≤ prevW xs i ∧ prevW xs i < 4294967296 := by
      cases i with
      | zero => rw [prevW_zero]; omega
      | succ j =>
        rw [prevW_succ]
        have hj : j < xs.length := by omega
        exact wordOf_range (hb _ (by rw [List.getD_eq_getElem?_getD, List.getElem?_eq_getElem hj]; exact List.getElem_mem hj))
    rw [packTo_succ, List.map_append, uRun_append, uRun_pack hl hx hc hb i (by omega)]
    simp only
    have h := uRun_byts lim 4 (zig (wordOf (xs.getD i 0)) (prevW xs i)) ⟨xs.take i, prevW xs i, 0, 0⟩ [] (Nat.lt_of_lt_of_le (zig_lt _ _) (by decide)) (by dsimp only; omega) (by simp; omega)
    rw [List.append_nil] at h
    rw [h]
    have e : uPv ⟨xs.take i, prevW xs i, 0, 0⟩ (zig (wordOf (xs.getD i 0)) (prevW xs i)) = wordOf (xs.getD i 0) := by
      unfold uPv
      dsimp only
      rw [Nat.pow_zero, Nat.mul_one, Nat.zero_add]
      exact unz_zig hw hp
    simp only [uRun]
    have et : xs.take (i + 1) = xs.take i ++ [xs.getD i 0] := by rw [List.take_succ_eq_append_getElem hi, List.getD_eq_getElem?_getD, List.getElem?_eq_getElem hi]; rfl
    rw [e, cb_word (hc _ hm), prevW_succ, et]
/-! ### what the decoders answer -/
def uOk (lim : Nat) (s : ByteArray) : Bool := match uTo lim s s.size with
  | some st => decide (1 ≤ st.out.length) && decide (strOfNums (packTo st.out st.out.length) = s)
  | none => false
def uVal (lim : Nat) (s : ByteArray) : List Nat := if uOk lim s then (match uTo lim s s.size with
  | some st => st.out
  | none => []) else []
theorem uOk_some {lim : Nat} {s : ByteArray} {st : USt} (h : uTo lim s s.size = some st) : uOk lim s = (decide (1 ≤ st.out.length) && decide (strOfNums (packTo st.out st.out.length) = s)) := by unfold uOk; rw [h]
theorem uOk_none {lim : Nat} {s : ByteArray} {i : Nat} (hi : i ≤ s.size) (h : uTo lim s i = none) : uOk lim s = false := by unfold uOk; rw [uTo_none h _ hi (Nat.le_refl _)]
theorem uVal_some {lim : Nat} {s : ByteArray} {st : USt} (h : uTo lim s s.size = some st) (hk : uOk lim s = true) : uVal lim s = st.out := by unfold uVal; rw [if_pos hk, h]
theorem uVal_bad {lim : Nat} {s : ByteArray} (hk : uOk lim s = false) : uVal lim s = [] := by unfold uVal; rw [hk]; rfl
theorem uOk_of {lim lim' : Nat} (hl' : 28 ≤ lim') {s : ByteArray} (h : uOk lim s = true) : uOk lim' s = true ∧ uVal lim' s = uVal lim s := by
  cases hq : uTo lim s s.size with
  | none => unfold uOk at h; rw [hq] at h; cases h
  | some st =>
    have hv := uVal_some hq h
    have hI := uTo_inv (Nat.le_refl _) hq
    rw [uOk_some hq] at h
    simp only [Bool.and_eq_true, decide_eq_true_eq] at h
    obtain ⟨h1, h2⟩ := h
    have hp := uRun_pack hl' hI.ol hI.oc hI.ob _ (Nat.le_refl _)
    rw [List.take_length] at hp
    have hr : uTo lim' s s.size = some ⟨st.out, prevW st.out st.out.length, 0, 0⟩ := by
      unfold uTo
      rw [← bL_len s, List.take_length]
      conv => lhs; rw [← h2]
      rw [bL_nums (packTo_rng _ _)]
      exact hp
    have hk : uOk lim' s = true := by
      rw [uOk_some hr]
      simp only [Bool.and_eq_true, decide_eq_true_eq]
      exact ⟨h1, h2⟩
    exact ⟨hk, by rw [uVal_some hr hk, hv]⟩
theorem uOk_same (s : ByteArray) : uOk 35 s = uOk 28 s ∧ uVal 35 s = uVal 28 s := by
  cases h : uOk 28 s with
  | true =>
    obtain ⟨h1, h2⟩ := uOk_of (lim' := 35) (by decide) h
    exact ⟨h1, h2⟩
  | false =>
    cases h3 : uOk 35 s with
    | true =>
      obtain ⟨h1, -⟩ := uOk_of (lim' := 28) (by decide) h3
      rw [h] at h1; cases h1
    | false => exact ⟨rfl, by rw [uVal_bad h, uVal_bad h3]⟩
end Go.Proofs.Ytmplincflbhmiaa
namespace Go.Proofs.Ytmplincflbhmiaa
set_option linter.unusedSimpArgs false
set_option linter.unusedVariables false
open Go Cn Go.RowKit
theorem and7 {b : Nat} (h : b < 256) : bits .and .u8 (b : Int) 127 = ((b % 128 : Nat) : Int) := by
  have h2 : bits .and .u8 (b : Int) 127 = IntKind.u8.wrap (((BitVec.ofInt 8 b &&& BitVec.ofInt 8 127).toNat : Nat) : Int) := rfl
  rw [h2]
  have h1 : (BitVec.ofInt 8 (b : Int) &&& BitVec.ofInt 8 127).toNat = b % 128 := by
    rw [BitVec.toNat_and, BitVec.toNat_ofInt, BitVec.toNat_ofInt]
    have : ((127 : Int) % ((2 ^ 8 : Nat) : Int)).toNat = 2 ^ 7 - 1 := by decide
    rw [this, Nat.and_two_pow_sub_one_eq_mod]
    omega
  rw [h1, wrap_inR (by simp only [InR]; omega)]
theorem or_add {n b sh : Nat} (hn : n < 2 ^ sh) (hs : sh ≤ 35) (hb : b < 128) : bits .or .i64 (n : Int) ((b * 2 ^ sh : Nat) : Int) = ((n + b * 2 ^ sh : Nat) : Int) := by
  have h2 : bits .or .i64 (n : Int) ((b * 2 ^ sh : Nat) : Int) = IntKind.i64.wrap (((BitVec.ofInt 64 (n : Int) ||| BitVec.ofInt 64 ((b * 2 ^ sh : Nat) : Int)).toNat : Nat) : Int) := rfl
  rw [h2]
  have hp : 2 ^ sh ≤ 2 ^ 35 := Nat.pow_le_pow_right (by decide) hs
  have hm : b * 2 ^ sh ≤ 127 * 2 ^ sh := Nat.mul_le_mul_right _ (by omega)
  have h1 : (BitVec.ofInt 64 (n : Int) ||| BitVec.ofInt 64 ((b * 2 ^ sh : Nat) : Int)).toNat = n + b * 2 ^ sh := by
    rw [BitVec.toNat_or, BitVec.toNat_ofInt, BitVec.toNat_ofInt]
    have e1 : ((n : Int) % ((2 ^ 64 : Nat) : Int)).toNat = n := by omega
    have e2 : (((b * 2 ^ sh : Nat) : Int) % ((2 ^ 64 : Nat) : Int)).toNat = b * 2 ^ sh := by omega
    rw [e1, e2, Nat.or_comm, Nat.mul_comm, ← Nat.two_pow_add_eq_or_of_lt hn, Nat.add_comm]
  rw [h1, wrap_inR (by simp only [InR]; omega)]
section
variable {B : Nat} {A W W' : World} {L : List Res}
theorem c_spec_l01From {x : Int} (hx : 0 ≤ x ∧ x < 4294967296) : ACalls Try.prog B 93 [.int .i64 x] W (fun r W' => r = .float .f32 (cb .f32 x.toNat) ∧ W' = W) := by
  refine acalls_of Try.func93 rfl Try.ntmps93 (Nat.le_of_ble_eq_true rfl) ?_
  repeat' (first
      | refine s_pure tabOk rfl rfl rfl rfl ?_
      | refine aops_nil ?_
      | refine thn_normal ?_
      | refine aw_seq ?_
      | refine aw_reg ?_
      | refine s_pass rfl rfl rfl ?_
      | refine s_len tabOk rfl rfl rfl rfl ?_
      | refine aw_true rfl ?_
      | refine aw_false rfl ?_
      | refine aw_block ?_
      | refine aw_skip ?_
      | refine aw_exit ?_
      | refine blk_exit ?_
      | refine blk_exit_other rfl ?_
      | refine blk_normal ?_
      | refine thn_exit ?_
      | refine thn_ret ?_
      | refine blk_ret ?_
      | refine rnd_ret ?_
      | refine rnd_exit ?_
      | refine aw_ret ?_
      | refine s_arith tabOk rfl rfl rfl rfl (by simp only [InR]; omega) ?_
      | ((fail_if_success refine s_told rfl rfl ?_); refine s_part rfl rfl rfl ?_ ?_ <;> intro hc <;> (first | replace hc := of_decide_eq_true hc | replace hc := of_decide_eq_false hc | replace hc := eq_of_beq hc | skip))
      | (refine aw_if rfl ?_ ?_ <;> intro hc <;> (first | replace hc := of_decide_eq_true hc | replace hc := of_decide_eq_false hc | replace hc := eq_of_beq hc | skip))
      | refine s_index1 tabOk rfl rfl rfl rfl (by omega) (by omega) ?_)
  refine s_ext rfl rfl rfl rfl (x_math_Float32frombits _) ?_
  rintro _ W ⟨rfl, rfl⟩
  repeat' (first
      | refine s_pure tabOk rfl rfl rfl rfl ?_
      | refine aops_nil ?_
      | refine thn_normal ?_
      | refine aw_seq ?_
      | refine aw_reg ?_
      | refine s_pass rfl rfl rfl ?_
      | refine s_len tabOk rfl rfl rfl rfl ?_
      | refine aw_true rfl ?_
      | refine aw_false rfl ?_
      | refine aw_block ?_
      | refine aw_skip ?_
      | refine aw_exit ?_
      | refine blk_exit ?_
      | refine blk_exit_other rfl ?_
      | refine blk_normal ?_
      | refine thn_exit ?_
      | refine thn_ret ?_
      | refine blk_ret ?_
      | refine rnd_ret ?_
      | refine rnd_exit ?_
      | refine aw_ret ?_
      | refine s_arith tabOk rfl rfl rfl rfl (by simp only [InR]; omega) ?_
      | ((fail_if_success refine s_told rfl rfl ?_); refine s_part rfl rfl rfl ?_ ?_ <;> intro hc <;> (first | replace hc := of_decide_eq_true hc | replace hc := of_decide_eq_false hc | replace hc := eq_of_beq hc | skip))
      | (refine aw_if rfl ?_ ?_ <;> intro hc <;> (first | replace hc := of_decide_eq_true hc | replace hc := of_decide_eq_false hc | replace hc := eq_of_beq hc | skip))
      | refine s_index1 tabOk rfl rfl rfl rfl (by omega) (by omega) ?_)
  refine retK_ret tabOk (congrArg Array.toList Try.results93) (by repeat (first | exact rv_nil | apply rv_tmp rfl rfl | apply rv_cellH (by assumption) rfl rfl rfl (by repeat (first | exact List.Mem.head _ | apply List.Mem.tail)) rfl)) ?_
  exact ⟨rfl, rfl⟩
theorem u_none {lim : Nat} {s : ByteArray} {i : Nat} {st : USt} (hi : i < s.size) (h : uTo lim s i = some st) (h2 : uStep lim (bt s i) st = none) : uOk lim s = false :=
  uOk_none (i := i + 1) (by omega) (by rw [uTo_succ hi, h]; exact h2)
theorem u_some {lim : Nat} {s : ByteArray} {i : Nat} {st st' : USt} (hi : i < s.size) (h : uTo lim s i = some st) (h2 : uStep lim (bt s i) st = some st') : uTo lim s (i + 1) = some st' := by rw [uTo_succ hi, h]; exact h2
def UnH (lim : Nat) (B : Nat) (W W' : World) (r : Value) (s : ByteArray) : Prop := ∃ a c, r = .tuple #[.slice a (uVal lim s).length c, .bool (uOk lim s)] ∧ Hp B W W' [fRow (.slice a (uVal lim s).length c) (uVal lim s)]
theorem UnH.bad {lim : Nat} {s : ByteArray} (hk : uOk lim s = false) (hb : Hp B W W' []) : UnH lim B W W' (.tuple #[.slice none 0 0, .bool false]) s := by
  unfold UnH
  rw [hk, uVal_bad hk]
  exact ⟨none, 0, rfl, hp_nilF hb⟩
theorem UnH.good {lim : Nat} {s : ByteArray} {zs : List Nat} {a : Option Addr} {c : Nat} (hk : uOk lim s = true) (hz : uVal lim s = zs) (hb : Hp B W W' [fRow (.slice a zs.length c) zs]) : UnH lim B W W' (.tuple #[.slice a zs.length c, .bool true]) s := by
  subst hz
  unfold UnH
  rw [hk]
  exact ⟨a, c, rfl, hb⟩
set_option maxHeartbeats 4000000 in
theorem hc_impl_UnpackRecord {s : ByteArray} (hs : s.size ≤ 1048576) (hB : B ≤ W.heap.size) : ACalls Try.prog B 24 [.string s] W (fun r W' => UnH 35 B W W' r s) := by
  have H0 : Hp B W W [] := Hp.new hB
  refine acalls_of Try.func24 rfl Try.ntmps24 (Nat.le_of_ble_eq_true rfl) ?_
  repeat' (first | refine s_pure tabOk rfl rfl rfl rfl ?_ | refine Stp.imp ?_ | refine aops_nil ?_ | refine aw_reg ?_ | refine aw_seq ?_ | refine s_pass rfl rfl rfl ?_ | refine s_len tabOk rfl rfl rfl rfl ?_ | refine aw_true rfl ?_ | refine aw_false rfl ?_ | refine blk_exit_other rfl ?_ | refine s_arith tabOk rfl rfl rfl rfl (by simp only [InR]; omega) ?_ | ((first | ((fail_if_success refine s_told rfl rfl ?_); refine s_part rfl rfl rfl ?_ ?_) | refine aw_if rfl ?_ ?_) <;> intro hc <;> (first | replace hc := DecT.imp hc | simp only [decs] at hc | skip)) | refine s_index1n tabOk rfl rfl rfl rfl (by omega) ?_ | refine s_indexn tabOk rfl rfl rfl rfl (by omega) ?_ | refine s_index1 tabOk rfl rfl rfl rfl (by omega) (by omega) ?_ | refine sh_load tabOk (by assumption) rfl rfl rfl rfl (by repeat (first | exact List.Mem.head _ | apply List.Mem.tail)) (by rfl) (by rfl) ?_ | refine sh_loada tabOk (by assumption) rfl rfl rfl rfl (by repeat (first | exact List.Mem.head _ | apply List.Mem.tail)) (by rfl) ?_ | (refine sh_box (by assumption) rfl rfl rfl rfl rfl rfl ?_; intro _ _ _) | (refine sh_alloc tabOk (by assumption) rfl rfl rfl rfl rfl rfl ?_; intro _ _ _) | (refine sh_store tabOk (by assumption) rfl rfl rfl rfl rfl rfl (by repeat (first | exact Upd.here | apply Upd.there)) (by rfl) ?_; intro _ _) | (refine sh_lit tabOk (by assumption) rfl rfl rfl rfl rfl rfl rfl rfl rfl rfl rfl ?_; intro _ _ _) | refine sh_build tabOk rfl rfl rfl rfl rfl rfl ?_)
  rename_i b0 W0 H1
  refine aw_loopH (A := W) (fun x : Nat × USt × Option Addr × Nat => [(13, .int .i64 x.1), (12, .int .i64 s.size), (11, .string s), (7, .int .i64 x.2.1.sh), (6, .int .i64 x.2.1.n), (5, .int .i64 x.2.1.pv), (4, .slice x.2.2.1 x.2.1.out.length x.2.2.2), (3, .bool false), (2, .slice none 0 0), (0, .string s)])
    (fun x => [fRow (.slice x.2.2.1 x.2.1.out.length x.2.2.2) x.2.1.out]) (fun x => x.1 ≤ s.size ∧ uTo 35 s x.1 = some x.2.1) (fun x => s.size - x.1) (0, u0, some ⟨b0, 0, none⟩, 0) ⟨by dsimp only; omega, uTo_zero _ _⟩ H1 (by exact (by repeat (first | exact less_nil | refine less_cons rfl ?_))) ?_
  rintro ⟨i, ⟨out, pv, n, sh⟩, a, c⟩ W1 ⟨hi, hu⟩ H2
  dsimp only at hi hu H2 ⊢
  have hI := uTo_inv hi hu
  obtain ⟨ol, oc, ob, pr, nr, sr⟩ := hI
  dsimp only at ol oc ob pr nr sr
  have hb := bt_lt s i
  repeat' (first | refine s_pure tabOk rfl rfl rfl rfl ?_ | refine Stp.imp ?_ | refine aops_nil ?_ | refine aw_reg ?_ | refine aw_seq ?_ | refine s_pass rfl rfl rfl ?_ | refine s_len tabOk rfl rfl rfl rfl ?_ | refine aw_true rfl ?_ | refine aw_false rfl ?_ | refine blk_exit_other rfl ?_ | refine s_arith tabOk rfl rfl rfl rfl (by simp only [InR]; omega) ?_ | ((first | ((fail_if_success refine s_told rfl rfl ?_); refine s_part rfl rfl rfl ?_ ?_) | refine aw_if rfl ?_ ?_) <;> intro hc <;> (first | replace hc := DecT.imp hc | simp only [decs] at hc | skip)) | refine s_index1n tabOk rfl rfl rfl rfl (by omega) ?_ | refine s_indexn tabOk rfl rfl rfl rfl (by omega) ?_ | refine s_index1 tabOk rfl rfl rfl rfl (by omega) (by omega) ?_ | refine sh_load tabOk (by assumption) rfl rfl rfl rfl (by repeat (first | exact List.Mem.head _ | apply List.Mem.tail)) (by rfl) (by rfl) ?_ | refine sh_loada tabOk (by assumption) rfl rfl rfl rfl (by repeat (first | exact List.Mem.head _ | apply List.Mem.tail)) (by rfl) ?_ | (refine sh_box (by assumption) rfl rfl rfl rfl rfl rfl ?_; intro _ _ _) | (refine sh_alloc tabOk (by assumption) rfl rfl rfl rfl rfl rfl ?_; intro _ _ _) | (refine sh_store tabOk (by assumption) rfl rfl rfl rfl rfl rfl (by repeat (first | exact Upd.here | apply Upd.there)) (by rfl) ?_; intro _ _) | (refine sh_lit tabOk (by assumption) rfl rfl rfl rfl rfl rfl rfl rfl rfl rfl rfl ?_; intro _ _ _) | refine sh_build tabOk rfl rfl rfl rfl rfl rfl ?_)
  · refine s_byte tabOk rfl rfl rfl rfl (by omega) (by omega) ?_
    rw [Int.toNat_natCast]
    repeat' (first | refine s_pure tabOk rfl rfl rfl rfl ?_ | refine Stp.imp ?_ | refine aops_nil ?_ | refine aw_reg ?_ | refine aw_seq ?_ | refine s_pass rfl rfl rfl ?_ | refine s_len tabOk rfl rfl rfl rfl ?_ | refine aw_true rfl ?_ | refine aw_false rfl ?_ | refine blk_exit_other rfl ?_ | refine s_arith tabOk rfl rfl rfl rfl (by simp only [InR]; omega) ?_ | ((first | ((fail_if_success refine s_told rfl rfl ?_); refine s_part rfl rfl rfl ?_ ?_) | refine aw_if rfl ?_ ?_) <;> intro hc <;> (first | replace hc := DecT.imp hc | simp only [decs] at hc | skip)) | refine s_index1n tabOk rfl rfl rfl rfl (by omega) ?_ | refine s_indexn tabOk rfl rfl rfl rfl (by omega) ?_ | refine s_index1 tabOk rfl rfl rfl rfl (by omega) (by omega) ?_ | refine sh_load tabOk (by assumption) rfl rfl rfl rfl (by repeat (first | exact List.Mem.head _ | apply List.Mem.tail)) (by rfl) (by rfl) ?_ | refine sh_loada tabOk (by assumption) rfl rfl rfl rfl (by repeat (first | exact List.Mem.head _ | apply List.Mem.tail)) (by rfl) ?_ | (refine sh_box (by assumption) rfl rfl rfl rfl rfl rfl ?_; intro _ _ _) | (refine sh_alloc tabOk (by assumption) rfl rfl rfl rfl rfl rfl ?_; intro _ _ _) | (refine sh_store tabOk (by assumption) rfl rfl rfl rfl rfl rfl (by repeat (first | exact Upd.here | apply Upd.there)) (by rfl) ?_; intro _ _) | (refine sh_lit tabOk (by assumption) rfl rfl rfl rfl rfl rfl rfl rfl rfl rfl rfl ?_; intro _ _ _) | refine sh_build tabOk rfl rfl rfl rfl rfl rfl ?_)
    refine s_bits rfl rfl rfl rfl rfl ?_
    rw [and7 hb]
    repeat' (first | refine s_pure tabOk rfl rfl rfl rfl ?_ | refine Stp.imp ?_ | refine aops_nil ?_ | refine aw_reg ?_ | refine aw_seq ?_ | refine s_pass rfl rfl rfl ?_ | refine s_len tabOk rfl rfl rfl rfl ?_ | refine aw_true rfl ?_ | refine aw_false rfl ?_ | refine blk_exit_other rfl ?_ | refine s_arith tabOk rfl rfl rfl rfl (by simp only [InR]; omega) ?_ | ((first | ((fail_if_success refine s_told rfl rfl ?_); refine s_part rfl rfl rfl ?_ ?_) | refine aw_if rfl ?_ ?_) <;> intro hc <;> (first | replace hc := DecT.imp hc | simp only [decs] at hc | skip)) | refine s_index1n tabOk rfl rfl rfl rfl (by omega) ?_ | refine s_indexn tabOk rfl rfl rfl rfl (by omega) ?_ | refine s_index1 tabOk rfl rfl rfl rfl (by omega) (by omega) ?_ | refine sh_load tabOk (by assumption) rfl rfl rfl rfl (by repeat (first | exact List.Mem.head _ | apply List.Mem.tail)) (by rfl) (by rfl) ?_ | refine sh_loada tabOk (by assumption) rfl rfl rfl rfl (by repeat (first | exact List.Mem.head _ | apply List.Mem.tail)) (by rfl) ?_ | (refine sh_box (by assumption) rfl rfl rfl rfl rfl rfl ?_; intro _ _ _) | (refine sh_alloc tabOk (by assumption) rfl rfl rfl rfl rfl rfl ?_; intro _ _ _) | (refine sh_store tabOk (by assumption) rfl rfl rfl rfl rfl rfl (by repeat (first | exact Upd.here | apply Upd.there)) (by rfl) ?_; intro _ _) | (refine sh_lit tabOk (by assumption) rfl rfl rfl rfl rfl rfl rfl rfl rfl rfl rfl ?_; intro _ _ _) | refine sh_build tabOk rfl rfl rfl rfl rfl rfl ?_)
    refine s_shl rfl rfl rfl rfl (by omega) (by show (sh : Int) ≤ 64; omega) ?_
    have hp : 2 ^ sh ≤ 2 ^ 35 := Nat.pow_le_pow_right (by decide) sr
    have hd : bt s i % 128 < 128 := Nat.mod_lt _ (by decide)
    have hm : (bt s i % 128) * 2 ^ sh ≤ 127 * 2 ^ sh := Nat.mul_le_mul_right _ (by omega)
    rw [Int.toNat_natCast, show IntKind.i64.wrap (((bt s i % 128 : Nat) : Int) * 2 ^ sh) = (((bt s i % 128) * 2 ^ sh : Nat) : Int) by
      rw [wrap_inR (by have : (((bt s i % 128 : Nat) : Int) * 2 ^ sh) = (((bt s i % 128) * 2 ^ sh : Nat) : Int) := by rw [Int.natCast_mul, Int.natCast_pow]; rfl
                       rw [this]; simp only [InR]; omega), Int.natCast_mul, Int.natCast_pow]; rfl]
    refine s_bits rfl rfl rfl rfl rfl ?_
    rw [or_add nr sr hd]
    have hq0 : n + (bt s i % 128) * 2 ^ sh < 128 * 2 ^ sh := by omega
    generalize hq : n + (bt s i % 128) * 2 ^ sh = q at hq0 ⊢
    repeat' (first | refine s_pure tabOk rfl rfl rfl rfl ?_ | refine Stp.imp ?_ | refine aops_nil ?_ | refine aw_reg ?_ | refine aw_seq ?_ | refine s_pass rfl rfl rfl ?_ | refine s_len tabOk rfl rfl rfl rfl ?_ | refine aw_true rfl ?_ | refine aw_false rfl ?_ | refine blk_exit_other rfl ?_ | refine s_arith tabOk rfl rfl rfl rfl (by simp only [InR]; omega) ?_ | ((first | ((fail_if_success refine s_told rfl rfl ?_); refine s_part rfl rfl rfl ?_ ?_) | refine aw_if rfl ?_ ?_) <;> intro hc <;> (first | replace hc := DecT.imp hc | simp only [decs] at hc | skip)) | refine s_index1n tabOk rfl rfl rfl rfl (by omega) ?_ | refine s_indexn tabOk rfl rfl rfl rfl (by omega) ?_ | refine s_index1 tabOk rfl rfl rfl rfl (by omega) (by omega) ?_ | refine sh_load tabOk (by assumption) rfl rfl rfl rfl (by repeat (first | exact List.Mem.head _ | apply List.Mem.tail)) (by rfl) (by rfl) ?_ | refine sh_loada tabOk (by assumption) rfl rfl rfl rfl (by repeat (first | exact List.Mem.head _ | apply List.Mem.tail)) (by rfl) ?_ | (refine sh_box (by assumption) rfl rfl rfl rfl rfl rfl ?_; intro _ _ _) | (refine sh_alloc tabOk (by assumption) rfl rfl rfl rfl rfl rfl ?_; intro _ _ _) | (refine sh_store tabOk (by assumption) rfl rfl rfl rfl rfl rfl (by repeat (first | exact Upd.here | apply Upd.there)) (by rfl) ?_; intro _ _) | (refine sh_lit tabOk (by assumption) rfl rfl rfl rfl rfl rfl rfl rfl rfl rfl rfl ?_; intro _ _ _) | refine sh_build tabOk rfl rfl rfl rfl rfl rfl ?_)
    refine s_byte tabOk rfl rfl rfl rfl (by omega) (by omega) ?_
    rw [Int.toNat_natCast]
    repeat' (first | refine s_pure tabOk rfl rfl rfl rfl ?_ | refine Stp.imp ?_ | refine aops_nil ?_ | refine aw_reg ?_ | refine aw_seq ?_ | refine s_pass rfl rfl rfl ?_ | refine s_len tabOk rfl rfl rfl rfl ?_ | refine aw_true rfl ?_ | refine aw_false rfl ?_ | refine blk_exit_other rfl ?_ | refine s_arith tabOk rfl rfl rfl rfl (by simp only [InR]; omega) ?_ | ((first | ((fail_if_success refine s_told rfl rfl ?_); refine s_part rfl rfl rfl ?_ ?_) | refine aw_if rfl ?_ ?_) <;> intro hc <;> (first | replace hc := DecT.imp hc | simp only [decs] at hc | skip)) | refine s_index1n tabOk rfl rfl rfl rfl (by omega) ?_ | refine s_indexn tabOk rfl rfl rfl rfl (by omega) ?_ | refine s_index1 tabOk rfl rfl rfl rfl (by omega) (by omega) ?_ | refine sh_load tabOk (by assumption) rfl rfl rfl rfl (by repeat (first | exact List.Mem.head _ | apply List.Mem.tail)) (by rfl) (by rfl) ?_ | refine sh_loada tabOk (by assumption) rfl rfl rfl rfl (by repeat (first | exact List.Mem.head _ | apply List.Mem.tail)) (by rfl) ?_ | (refine sh_box (by assumption) rfl rfl rfl rfl rfl rfl ?_; intro _ _ _) | (refine sh_alloc tabOk (by assumption) rfl rfl rfl rfl rfl rfl ?_; intro _ _ _) | (refine sh_store tabOk (by assumption) rfl rfl rfl rfl rfl rfl (by repeat (first | exact Upd.here | apply Upd.there)) (by rfl) ?_; intro _ _) | (refine sh_lit tabOk (by assumption) rfl rfl rfl rfl rfl rfl rfl rfl rfl rfl rfl ?_; intro _ _ _) | refine sh_build tabOk rfl rfl rfl rfl rfl rfl ?_)
    · refine retK_ret tabOk (congrArg Array.toList Try.results24) (by repeat (first | exact rv_nil | apply rv_tmp rfl rfl | apply rv_cellH (by assumption) rfl rfl rfl (by repeat (first | exact List.Mem.head _ | apply List.Mem.tail)) rfl)) ?_
      exact UnH.bad (u_none (by omega) hu (by unfold uStep; rw [if_pos (by omega), if_pos (by dsimp only; omega)])) (Hp.sub (by assumption) (by repeat (first | exact List.nil_sublist _ | refine List.Sublist.cons_cons _ ?_ | refine List.Sublist.cons _ ?_)))
    · refine rndh_next (i + 1, ⟨out, pv, q, sh + 7⟩, a, c) ⟨by dsimp only; omega, u_some (by omega) hu ?_⟩ (by dsimp only; omega) (by exact (by repeat (first | exact less_nil | refine less_cons rfl ?_))) H2
      unfold uStep
      dsimp only
      rw [if_pos (by omega), if_neg (by omega), ← hq, show bt s i % 128 = bt s i - 128 by omega]
    have hst : uStep 35 (bt s i) ⟨out, pv, n, sh⟩ = if 128 < out.length + 1 then none else some ⟨out ++ [cb .f32 ((pv + unz q) % 4294967296).toNat], (pv + unz q) % 4294967296, 0, 0⟩ := by
      unfold uStep uPv
      dsimp only
      rw [if_neg (by omega), ← hq, show bt s i % 128 = bt s i by omega]
    have hz : unz q = if q % 2 = 1 then -(((q + 1) / 2 : Nat) : Int) else ((q / 2 : Nat) : Int) := rfl
    refine s_div rfl rfl rfl rfl (by omega) (by decide) (by simp only [InR]; omega) ?_
    repeat' (first | refine s_pure tabOk rfl rfl rfl rfl ?_ | refine Stp.imp ?_ | refine aops_nil ?_ | refine aw_reg ?_ | refine aw_seq ?_ | refine s_pass rfl rfl rfl ?_ | refine s_len tabOk rfl rfl rfl rfl ?_ | refine aw_true rfl ?_ | refine aw_false rfl ?_ | refine blk_exit_other rfl ?_ | refine s_arith tabOk rfl rfl rfl rfl (by simp only [InR]; omega) ?_ | ((first | ((fail_if_success refine s_told rfl rfl ?_); refine s_part rfl rfl rfl ?_ ?_) | refine aw_if rfl ?_ ?_) <;> intro hc <;> (first | replace hc := DecT.imp hc | simp only [decs] at hc | skip)) | refine s_index1n tabOk rfl rfl rfl rfl (by omega) ?_ | refine s_indexn tabOk rfl rfl rfl rfl (by omega) ?_ | refine s_index1 tabOk rfl rfl rfl rfl (by omega) (by omega) ?_ | refine sh_load tabOk (by assumption) rfl rfl rfl rfl (by repeat (first | exact List.Mem.head _ | apply List.Mem.tail)) (by rfl) (by rfl) ?_ | refine sh_loada tabOk (by assumption) rfl rfl rfl rfl (by repeat (first | exact List.Mem.head _ | apply List.Mem.tail)) (by rfl) ?_ | (refine sh_box (by assumption) rfl rfl rfl rfl rfl rfl ?_; intro _ _ _) | (refine sh_alloc tabOk (by assumption) rfl rfl rfl rfl rfl rfl ?_; intro _ _ _) | (refine sh_store tabOk (by assumption) rfl rfl rfl rfl rfl rfl (by repeat (first | exact Upd.here | apply Upd.there)) (by rfl) ?_; intro _ _) | (refine sh_lit tabOk (by assumption) rfl rfl rfl rfl rfl rfl rfl rfl rfl rfl rfl ?_; intro _ _ _) | refine sh_build tabOk rfl rfl rfl rfl rfl rfl ?_)
    have hzr : -8796093022208 ≤ unz q ∧ unz q ≤ 8796093022208 := by
      rw [hz]; split <;> omega
    refine s_rem rfl rfl rfl rfl (by omega) (by decide) ?_
    repeat' (first | refine s_pure tabOk rfl rfl rfl rfl ?_ | refine Stp.imp ?_ | refine aops_nil ?_ | refine aw_reg ?_ | refine aw_seq ?_ | refine s_pass rfl rfl rfl ?_ | refine s_len tabOk rfl rfl rfl rfl ?_ | refine aw_true rfl ?_ | refine aw_false rfl ?_ | refine blk_exit_other rfl ?_ | refine s_arith tabOk rfl rfl rfl rfl (by simp only [InR]; omega) ?_ | ((first | ((fail_if_success refine s_told rfl rfl ?_); refine s_part rfl rfl rfl ?_ ?_) | refine aw_if rfl ?_ ?_) <;> intro hc <;> (first | replace hc := DecT.imp hc | simp only [decs] at hc | skip)) | refine s_index1n tabOk rfl rfl rfl rfl (by omega) ?_ | refine s_indexn tabOk rfl rfl rfl rfl (by omega) ?_ | refine s_index1 tabOk rfl rfl rfl rfl (by omega) (by omega) ?_ | refine sh_load tabOk (by assumption) rfl rfl rfl rfl (by repeat (first | exact List.Mem.head _ | apply List.Mem.tail)) (by rfl) (by rfl) ?_ | refine sh_loada tabOk (by assumption) rfl rfl rfl rfl (by repeat (first | exact List.Mem.head _ | apply List.Mem.tail)) (by rfl) ?_ | (refine sh_box (by assumption) rfl rfl rfl rfl rfl rfl ?_; intro _ _ _) | (refine sh_alloc tabOk (by assumption) rfl rfl rfl rfl rfl rfl ?_; intro _ _ _) | (refine sh_store tabOk (by assumption) rfl rfl rfl rfl rfl rfl (by repeat (first | exact Upd.here | apply Upd.there)) (by rfl) ?_; intro _ _) | (refine sh_lit tabOk (by assumption) rfl rfl rfl rfl rfl rfl rfl rfl rfl rfl rfl ?_; intro _ _ _) | refine sh_build tabOk rfl rfl rfl rfl rfl rfl ?_)
    · refine s_tdiv rfl rfl rfl rfl (by decide) ?_
      have e1 : (0 - ((q : Int) + 1)).tdiv 2 = unz q := by
        rw [hz, if_pos (by omega), show (0 - ((q : Int) + 1)) = -((q : Int) + 1) by omega, Int.neg_tdiv, Int.tdiv_eq_ediv_of_nonneg (by omega)]
        omega
      rw [e1, wrap_inR (by simp only [InR]; omega)]
      clear hz
      generalize unz q = z at *
      repeat' (first | refine s_pure tabOk rfl rfl rfl rfl ?_ | refine Stp.imp ?_ | refine aops_nil ?_ | refine aw_reg ?_ | refine aw_seq ?_ | refine s_pass rfl rfl rfl ?_ | refine s_len tabOk rfl rfl rfl rfl ?_ | refine aw_true rfl ?_ | refine aw_false rfl ?_ | refine blk_exit_other rfl ?_ | refine s_arith tabOk rfl rfl rfl rfl (by simp only [InR]; omega) ?_ | ((first | ((fail_if_success refine s_told rfl rfl ?_); refine s_part rfl rfl rfl ?_ ?_) | refine aw_if rfl ?_ ?_) <;> intro hc <;> (first | replace hc := DecT.imp hc | simp only [decs] at hc | skip)) | refine s_index1n tabOk rfl rfl rfl rfl (by omega) ?_ | refine s_indexn tabOk rfl rfl rfl rfl (by omega) ?_ | refine s_index1 tabOk rfl rfl rfl rfl (by omega) (by omega) ?_ | refine sh_load tabOk (by assumption) rfl rfl rfl rfl (by repeat (first | exact List.Mem.head _ | apply List.Mem.tail)) (by rfl) (by rfl) ?_ | refine sh_loada tabOk (by assumption) rfl rfl rfl rfl (by repeat (first | exact List.Mem.head _ | apply List.Mem.tail)) (by rfl) ?_ | (refine sh_box (by assumption) rfl rfl rfl rfl rfl rfl ?_; intro _ _ _) | (refine sh_alloc tabOk (by assumption) rfl rfl rfl rfl rfl rfl ?_; intro _ _ _) | (refine sh_store tabOk (by assumption) rfl rfl rfl rfl rfl rfl (by repeat (first | exact Upd.here | apply Upd.there)) (by rfl) ?_; intro _ _) | (refine sh_lit tabOk (by assumption) rfl rfl rfl rfl rfl rfl rfl rfl rfl rfl rfl ?_; intro _ _ _) | refine sh_build tabOk rfl rfl rfl rfl rfl rfl ?_)
      refine s_bits rfl rfl rfl rfl rfl ?_
      rw [and32]
      have hw : 0 ≤ (pv + z) % 4294967296 ∧ (pv + z) % 4294967296 < 4294967296 := by omega
      generalize (pv + z) % 4294967296 = w at *
      repeat' (first | refine s_pure tabOk rfl rfl rfl rfl ?_ | refine Stp.imp ?_ | refine aops_nil ?_ | refine aw_reg ?_ | refine aw_seq ?_ | refine s_pass rfl rfl rfl ?_ | refine s_len tabOk rfl rfl rfl rfl ?_ | refine aw_true rfl ?_ | refine aw_false rfl ?_ | refine blk_exit_other rfl ?_ | refine s_arith tabOk rfl rfl rfl rfl (by simp only [InR]; omega) ?_ | ((first | ((fail_if_success refine s_told rfl rfl ?_); refine s_part rfl rfl rfl ?_ ?_) | refine aw_if rfl ?_ ?_) <;> intro hc <;> (first | replace hc := DecT.imp hc | simp only [decs] at hc | skip)) | refine s_index1n tabOk rfl rfl rfl rfl (by omega) ?_ | refine s_indexn tabOk rfl rfl rfl rfl (by omega) ?_ | refine s_index1 tabOk rfl rfl rfl rfl (by omega) (by omega) ?_ | refine sh_load tabOk (by assumption) rfl rfl rfl rfl (by repeat (first | exact List.Mem.head _ | apply List.Mem.tail)) (by rfl) (by rfl) ?_ | refine sh_loada tabOk (by assumption) rfl rfl rfl rfl (by repeat (first | exact List.Mem.head _ | apply List.Mem.tail)) (by rfl) ?_ | (refine sh_box (by assumption) rfl rfl rfl rfl rfl rfl ?_; intro _ _ _) | (refine sh_alloc tabOk (by assumption) rfl rfl rfl rfl rfl rfl ?_; intro _ _ _) | (refine sh_store tabOk (by assumption) rfl rfl rfl rfl rfl rfl (by repeat (first | exact Upd.here | apply Upd.there)) (by rfl) ?_; intro _ _) | (refine sh_lit tabOk (by assumption) rfl rfl rfl rfl rfl rfl rfl rfl rfl rfl rfl ?_; intro _ _ _) | refine sh_build tabOk rfl rfl rfl rfl rfl rfl ?_)
      refine s_ext rfl rfl rfl rfl (x_math_Float32frombits _) ?_
      rintro _ W2 ⟨rfl, rfl⟩
      repeat' (first | refine s_pure tabOk rfl rfl rfl rfl ?_ | refine Stp.imp ?_ | refine aops_nil ?_ | refine aw_reg ?_ | refine aw_seq ?_ | refine s_pass rfl rfl rfl ?_ | refine s_len tabOk rfl rfl rfl rfl ?_ | refine aw_true rfl ?_ | refine aw_false rfl ?_ | refine blk_exit_other rfl ?_ | refine s_arith tabOk rfl rfl rfl rfl (by simp only [InR]; omega) ?_ | ((first | ((fail_if_success refine s_told rfl rfl ?_); refine s_part rfl rfl rfl ?_ ?_) | refine aw_if rfl ?_ ?_) <;> intro hc <;> (first | replace hc := DecT.imp hc | simp only [decs] at hc | skip)) | refine s_index1n tabOk rfl rfl rfl rfl (by omega) ?_ | refine s_indexn tabOk rfl rfl rfl rfl (by omega) ?_ | refine s_index1 tabOk rfl rfl rfl rfl (by omega) (by omega) ?_ | refine sh_load tabOk (by assumption) rfl rfl rfl rfl (by repeat (first | exact List.Mem.head _ | apply List.Mem.tail)) (by rfl) (by rfl) ?_ | refine sh_loada tabOk (by assumption) rfl rfl rfl rfl (by repeat (first | exact List.Mem.head _ | apply List.Mem.tail)) (by rfl) ?_ | (refine sh_box (by assumption) rfl rfl rfl rfl rfl rfl ?_; intro _ _ _) | (refine sh_alloc tabOk (by assumption) rfl rfl rfl rfl rfl rfl ?_; intro _ _ _) | (refine sh_store tabOk (by assumption) rfl rfl rfl rfl rfl rfl (by repeat (first | exact Upd.here | apply Upd.there)) (by rfl) ?_; intro _ _) | (refine sh_lit tabOk (by assumption) rfl rfl rfl rfl rfl rfl rfl rfl rfl rfl rfl ?_; intro _ _ _) | refine sh_build tabOk rfl rfl rfl rfl rfl rfl ?_)
      refine sh_push tabOk (by assumption) rfl rfl rfl rfl rfl rfl rfl rfl (fun _ _ => (by repeat (first | exact Upd.here | apply Upd.there))) (by omega) ?_
      intro a7 c7 W7 H7
      have hl7 : out.length + 1 = (out ++ [cb .f32 w.toNat]).length := by simp
      rw [hl7] at H7 hst ⊢
      generalize out ++ [cb .f32 w.toNat] = out7 at *
      repeat' (first | refine s_pure tabOk rfl rfl rfl rfl ?_ | refine Stp.imp ?_ | refine aops_nil ?_ | refine aw_reg ?_ | refine aw_seq ?_ | refine s_pass rfl rfl rfl ?_ | refine s_len tabOk rfl rfl rfl rfl ?_ | refine aw_true rfl ?_ | refine aw_false rfl ?_ | refine blk_exit_other rfl ?_ | refine s_arith tabOk rfl rfl rfl rfl (by simp only [InR]; omega) ?_ | ((first | ((fail_if_success refine s_told rfl rfl ?_); refine s_part rfl rfl rfl ?_ ?_) | refine aw_if rfl ?_ ?_) <;> intro hc <;> (first | replace hc := DecT.imp hc | simp only [decs] at hc | skip)) | refine s_index1n tabOk rfl rfl rfl rfl (by omega) ?_ | refine s_indexn tabOk rfl rfl rfl rfl (by omega) ?_ | refine s_index1 tabOk rfl rfl rfl rfl (by omega) (by omega) ?_ | refine sh_load tabOk (by assumption) rfl rfl rfl rfl (by repeat (first | exact List.Mem.head _ | apply List.Mem.tail)) (by rfl) (by rfl) ?_ | refine sh_loada tabOk (by assumption) rfl rfl rfl rfl (by repeat (first | exact List.Mem.head _ | apply List.Mem.tail)) (by rfl) ?_ | (refine sh_box (by assumption) rfl rfl rfl rfl rfl rfl ?_; intro _ _ _) | (refine sh_alloc tabOk (by assumption) rfl rfl rfl rfl rfl rfl ?_; intro _ _ _) | (refine sh_store tabOk (by assumption) rfl rfl rfl rfl rfl rfl (by repeat (first | exact Upd.here | apply Upd.there)) (by rfl) ?_; intro _ _) | (refine sh_lit tabOk (by assumption) rfl rfl rfl rfl rfl rfl rfl rfl rfl rfl rfl ?_; intro _ _ _) | refine sh_build tabOk rfl rfl rfl rfl rfl rfl ?_)
      · refine retK_ret tabOk (congrArg Array.toList Try.results24) (by repeat (first | exact rv_nil | apply rv_tmp rfl rfl | apply rv_cellH (by assumption) rfl rfl rfl (by repeat (first | exact List.Mem.head _ | apply List.Mem.tail)) rfl)) ?_
        exact UnH.bad (u_none (by omega) hu (by rw [hst, if_pos (by omega)])) (Hp.sub (by assumption) (by repeat (first | exact List.nil_sublist _ | refine List.Sublist.cons_cons _ ?_ | refine List.Sublist.cons _ ?_)))
      · exact rndh_next (i + 1, ⟨out7, w, 0, 0⟩, a7, c7) ⟨by dsimp only; omega, u_some (by omega) hu (by rw [hst, if_neg (by omega)])⟩ (by dsimp only; omega) (by exact (by repeat (first | exact less_nil | refine less_cons rfl ?_))) (Hp.picks (by assumption) (by repeat (first | exact Picks.nil | (apply Picks.cons; (repeat (first | exact Pick.here | apply Pick.there))))))
    · rw [show (q : Int) / 2 = unz q by rw [hz, if_neg (by omega)]; rfl]
      clear hz
      generalize unz q = z at *
      repeat' (first | refine s_pure tabOk rfl rfl rfl rfl ?_ | refine Stp.imp ?_ | refine aops_nil ?_ | refine aw_reg ?_ | refine aw_seq ?_ | refine s_pass rfl rfl rfl ?_ | refine s_len tabOk rfl rfl rfl rfl ?_ | refine aw_true rfl ?_ | refine aw_false rfl ?_ | refine blk_exit_other rfl ?_ | refine s_arith tabOk rfl rfl rfl rfl (by simp only [InR]; omega) ?_ | ((first | ((fail_if_success refine s_told rfl rfl ?_); refine s_part rfl rfl rfl ?_ ?_) | refine aw_if rfl ?_ ?_) <;> intro hc <;> (first | replace hc := DecT.imp hc | simp only [decs] at hc | skip)) | refine s_index1n tabOk rfl rfl rfl rfl (by omega) ?_ | refine s_indexn tabOk rfl rfl rfl rfl (by omega) ?_ | refine s_index1 tabOk rfl rfl rfl rfl (by omega) (by omega) ?_ | refine sh_load tabOk (by assumption) rfl rfl rfl rfl (by repeat (first | exact List.Mem.head _ | apply List.Mem.tail)) (by rfl) (by rfl) ?_ | refine sh_loada tabOk (by assumption) rfl rfl rfl rfl (by repeat (first | exact List.Mem.head _ | apply List.Mem.tail)) (by rfl) ?_ | (refine sh_box (by assumption) rfl rfl rfl rfl rfl rfl ?_; intro _ _ _) | (refine sh_alloc tabOk (by assumption) rfl rfl rfl rfl rfl rfl ?_; intro _ _ _) | (refine sh_store tabOk (by assumption) rfl rfl rfl rfl rfl rfl (by repeat (first | exact Upd.here | apply Upd.there)) (by rfl) ?_; intro _ _) | (refine sh_lit tabOk (by assumption) rfl rfl rfl rfl rfl rfl rfl rfl rfl rfl rfl ?_; intro _ _ _) | refine sh_build tabOk rfl rfl rfl rfl rfl rfl ?_)
      refine s_bits rfl rfl rfl rfl rfl ?_
      rw [and32]
      have hw : 0 ≤ (pv + z) % 4294967296 ∧ (pv + z) % 4294967296 < 4294967296 := by omega
      generalize (pv + z) % 4294967296 = w at *
      repeat' (first | refine s_pure tabOk rfl rfl rfl rfl ?_ | refine Stp.imp ?_ | refine aops_nil ?_ | refine aw_reg ?_ | refine aw_seq ?_ | refine s_pass rfl rfl rfl ?_ | refine s_len tabOk rfl rfl rfl rfl ?_ | refine aw_true rfl ?_ | refine aw_false rfl ?_ | refine blk_exit_other rfl ?_ | refine s_arith tabOk rfl rfl rfl rfl (by simp only [InR]; omega) ?_ | ((first | ((fail_if_success refine s_told rfl rfl ?_); refine s_part rfl rfl rfl ?_ ?_) | refine aw_if rfl ?_ ?_) <;> intro hc <;> (first | replace hc := DecT.imp hc | simp only [decs] at hc | skip)) | refine s_index1n tabOk rfl rfl rfl rfl (by omega) ?_ | refine s_indexn tabOk rfl rfl rfl rfl (by omega) ?_ | refine s_index1 tabOk rfl rfl rfl rfl (by omega) (by omega) ?_ | refine sh_load tabOk (by assumption) rfl rfl rfl rfl (by repeat (first | exact List.Mem.head _ | apply List.Mem.tail)) (by rfl) (by rfl) ?_ | refine sh_loada tabOk (by assumption) rfl rfl rfl rfl (by repeat (first | exact List.Mem.head _ | apply List.Mem.tail)) (by rfl) ?_ | (refine sh_box (by assumption) rfl rfl rfl rfl rfl rfl ?_; intro _ _ _) | (refine sh_alloc tabOk (by assumption) rfl rfl rfl rfl rfl rfl ?_; intro _ _ _) | (refine sh_store tabOk (by assumption) rfl rfl rfl rfl rfl rfl (by repeat (first | exact Upd.here | apply Upd.there)) (by rfl) ?_; intro _ _) | (refine sh_lit tabOk (by assumption) rfl rfl rfl rfl rfl rfl rfl rfl rfl rfl rfl ?_; intro _ _ _) | refine sh_build tabOk rfl rfl rfl rfl rfl rfl ?_)
      refine s_ext rfl rfl rfl rfl (x_math_Float32frombits _) ?_
      rintro _ W2 ⟨rfl, rfl⟩
      repeat' (first | refine s_pure tabOk rfl rfl rfl rfl ?_ | refine Stp.imp ?_ | refine aops_nil ?_ | refine aw_reg ?_ | refine aw_seq ?_ | refine s_pass rfl rfl rfl ?_ | refine s_len tabOk rfl rfl rfl rfl ?_ | refine aw_true rfl ?_ | refine aw_false rfl ?_ | refine blk_exit_other rfl ?_ | refine s_arith tabOk rfl rfl rfl rfl (by simp only [InR]; omega) ?_ | ((first | ((fail_if_success refine s_told rfl rfl ?_); refine s_part rfl rfl rfl ?_ ?_) | refine aw_if rfl ?_ ?_) <;> intro hc <;> (first | replace hc := DecT.imp hc | simp only [decs] at hc | skip)) | refine s_index1n tabOk rfl rfl rfl rfl (by omega) ?_ | refine s_indexn tabOk rfl rfl rfl rfl (by omega) ?_ | refine s_index1 tabOk rfl rfl rfl rfl (by omega) (by omega) ?_ | refine sh_load tabOk (by assumption) rfl rfl rfl rfl (by repeat (first | exact List.Mem.head _ | apply List.Mem.tail)) (by rfl) (by rfl) ?_ | refine sh_loada tabOk (by assumption) rfl rfl rfl rfl (by repeat (first | exact List.Mem.head _ | apply List.Mem.tail)) (by rfl) ?_ | (refine sh_box (by assumption) rfl rfl rfl rfl rfl rfl ?_; intro _ _ _) | (refine sh_alloc tabOk (by assumption) rfl rfl rfl rfl rfl rfl ?_; intro _ _ _) | (refine sh_store tabOk (by assumption) rfl rfl rfl rfl rfl rfl (by repeat (first | exact Upd.here | apply Upd.there)) (by rfl) ?_; intro _ _) | (refine sh_lit tabOk (by assumption) rfl rfl rfl rfl rfl rfl rfl rfl rfl rfl rfl ?_; intro _ _ _) | refine sh_build tabOk rfl rfl rfl rfl rfl rfl ?_)
      refine sh_push tabOk (by assumption) rfl rfl rfl rfl rfl rfl rfl rfl (fun _ _ => (by repeat (first | exact Upd.here | apply Upd.there))) (by omega) ?_
      intro a7 c7 W7 H7
      have hl7 : out.length + 1 = (out ++ [cb .f32 w.toNat]).length := by simp
      rw [hl7] at H7 hst ⊢
      generalize out ++ [cb .f32 w.toNat] = out7 at *
      repeat' (first | refine s_pure tabOk rfl rfl rfl rfl ?_ | refine Stp.imp ?_ | refine aops_nil ?_ | refine aw_reg ?_ | refine aw_seq ?_ | refine s_pass rfl rfl rfl ?_ | refine s_len tabOk rfl rfl rfl rfl ?_ | refine aw_true rfl ?_ | refine aw_false rfl ?_ | refine blk_exit_other rfl ?_ | refine s_arith tabOk rfl rfl rfl rfl (by simp only [InR]; omega) ?_ | ((first | ((fail_if_success refine s_told rfl rfl ?_); refine s_part rfl rfl rfl ?_ ?_) | refine aw_if rfl ?_ ?_) <;> intro hc <;> (first | replace hc := DecT.imp hc | simp only [decs] at hc | skip)) | refine s_index1n tabOk rfl rfl rfl rfl (by omega) ?_ | refine s_indexn tabOk rfl rfl rfl rfl (by omega) ?_ | refine s_index1 tabOk rfl rfl rfl rfl (by omega) (by omega) ?_ | refine sh_load tabOk (by assumption) rfl rfl rfl rfl (by repeat (first | exact List.Mem.head _ | apply List.Mem.tail)) (by rfl) (by rfl) ?_ | refine sh_loada tabOk (by assumption) rfl rfl rfl rfl (by repeat (first | exact List.Mem.head _ | apply List.Mem.tail)) (by rfl) ?_ | (refine sh_box (by assumption) rfl rfl rfl rfl rfl rfl ?_; intro _ _ _) | (refine sh_alloc tabOk (by assumption) rfl rfl rfl rfl rfl rfl ?_; intro _ _ _) | (refine sh_store tabOk (by assumption) rfl rfl rfl rfl rfl rfl (by repeat (first | exact Upd.here | apply Upd.there)) (by rfl) ?_; intro _ _) | (refine sh_lit tabOk (by assumption) rfl rfl rfl rfl rfl rfl rfl rfl rfl rfl rfl ?_; intro _ _ _) | refine sh_build tabOk rfl rfl rfl rfl rfl rfl ?_)
      · refine retK_ret tabOk (congrArg Array.toList Try.results24) (by repeat (first | exact rv_nil | apply rv_tmp rfl rfl | apply rv_cellH (by assumption) rfl rfl rfl (by repeat (first | exact List.Mem.head _ | apply List.Mem.tail)) rfl)) ?_
        exact UnH.bad (u_none (by omega) hu (by rw [hst, if_pos (by omega)])) (Hp.sub (by assumption) (by repeat (first | exact List.nil_sublist _ | refine List.Sublist.cons_cons _ ?_ | refine List.Sublist.cons _ ?_)))
      · exact rndh_next (i + 1, ⟨out7, w, 0, 0⟩, a7, c7) ⟨by dsimp only; omega, u_some (by omega) hu (by rw [hst, if_neg (by omega)])⟩ (by dsimp only; omega) (by exact (by repeat (first | exact less_nil | refine less_cons rfl ?_))) (Hp.picks (by assumption) (by repeat (first | exact Picks.nil | (apply Picks.cons; (repeat (first | exact Pick.here | apply Pick.there))))))
  · have hil : i = s.size := by omega
    subst hil
    refine s_call rfl rfl rfl rfl ent61 (c_impl_isMany (Hp.slF (by assumption) (by repeat (first | exact List.Mem.head _ | apply List.Mem.tail))) _) ?_
    rintro _ W2 ⟨rfl, rfl⟩
    have hk := uOk_some hu
    have hval := fun h => uVal_some hu h
    dsimp only at hk hval
    clear hu
    by_cases h1 : 1 ≤ out.length
    · rw [show (decide ((1 : Int) ≤ (out.length : Int)) && decide (out.length ≤ 128)) = true by simp; omega]
      repeat' (first | refine s_pure tabOk rfl rfl rfl rfl ?_ | refine Stp.imp ?_ | refine aops_nil ?_ | refine aw_reg ?_ | refine aw_seq ?_ | refine s_pass rfl rfl rfl ?_ | refine s_len tabOk rfl rfl rfl rfl ?_ | refine aw_true rfl ?_ | refine aw_false rfl ?_ | refine blk_exit_other rfl ?_ | refine s_arith tabOk rfl rfl rfl rfl (by simp only [InR]; omega) ?_ | ((first | ((fail_if_success refine s_told rfl rfl ?_); refine s_part rfl rfl rfl ?_ ?_) | refine aw_if rfl ?_ ?_) <;> intro hc <;> (first | replace hc := DecT.imp hc | simp only [decs] at hc | skip)) | refine s_index1n tabOk rfl rfl rfl rfl (by omega) ?_ | refine s_indexn tabOk rfl rfl rfl rfl (by omega) ?_ | refine s_index1 tabOk rfl rfl rfl rfl (by omega) (by omega) ?_ | refine sh_load tabOk (by assumption) rfl rfl rfl rfl (by repeat (first | exact List.Mem.head _ | apply List.Mem.tail)) (by rfl) (by rfl) ?_ | refine sh_loada tabOk (by assumption) rfl rfl rfl rfl (by repeat (first | exact List.Mem.head _ | apply List.Mem.tail)) (by rfl) ?_ | (refine sh_box (by assumption) rfl rfl rfl rfl rfl rfl ?_; intro _ _ _) | (refine sh_alloc tabOk (by assumption) rfl rfl rfl rfl rfl rfl ?_; intro _ _ _) | (refine sh_store tabOk (by assumption) rfl rfl rfl rfl rfl rfl (by repeat (first | exact Upd.here | apply Upd.there)) (by rfl) ?_; intro _ _) | (refine sh_lit tabOk (by assumption) rfl rfl rfl rfl rfl rfl rfl rfl rfl rfl rfl ?_; intro _ _ _) | refine sh_build tabOk rfl rfl rfl rfl rfl rfl ?_)
      refine s_call rfl rfl rfl rfl ent62 (c_impl_pack (Hp.slF (by assumption) (by repeat (first | exact List.Mem.head _ | apply List.Mem.tail))) (by omega) ob (Hp.size (by assumption))) ?_
      rintro v3 W3 ⟨ho, g3⟩
      have H3 := Hp.grow (by assumption) g3
      obtain ⟨ua, uc, rfl⟩ := ho.form
      repeat' (first | refine s_pure tabOk rfl rfl rfl rfl ?_ | refine Stp.imp ?_ | refine aops_nil ?_ | refine aw_reg ?_ | refine aw_seq ?_ | refine s_pass rfl rfl rfl ?_ | refine s_len tabOk rfl rfl rfl rfl ?_ | refine aw_true rfl ?_ | refine aw_false rfl ?_ | refine blk_exit_other rfl ?_ | refine s_arith tabOk rfl rfl rfl rfl (by simp only [InR]; omega) ?_ | ((first | ((fail_if_success refine s_told rfl rfl ?_); refine s_part rfl rfl rfl ?_ ?_) | refine aw_if rfl ?_ ?_) <;> intro hc <;> (first | replace hc := DecT.imp hc | simp only [decs] at hc | skip)) | refine s_index1n tabOk rfl rfl rfl rfl (by omega) ?_ | refine s_indexn tabOk rfl rfl rfl rfl (by omega) ?_ | refine s_index1 tabOk rfl rfl rfl rfl (by omega) (by omega) ?_ | refine sh_load tabOk (by assumption) rfl rfl rfl rfl (by repeat (first | exact List.Mem.head _ | apply List.Mem.tail)) (by rfl) (by rfl) ?_ | refine sh_loada tabOk (by assumption) rfl rfl rfl rfl (by repeat (first | exact List.Mem.head _ | apply List.Mem.tail)) (by rfl) ?_ | (refine sh_box (by assumption) rfl rfl rfl rfl rfl rfl ?_; intro _ _ _) | (refine sh_alloc tabOk (by assumption) rfl rfl rfl rfl rfl rfl ?_; intro _ _ _) | (refine sh_store tabOk (by assumption) rfl rfl rfl rfl rfl rfl (by repeat (first | exact Upd.here | apply Upd.there)) (by rfl) ?_; intro _ _) | (refine sh_lit tabOk (by assumption) rfl rfl rfl rfl rfl rfl rfl rfl rfl rfl rfl ?_; intro _ _ _) | refine sh_build tabOk rfl rfl rfl rfl rfl rfl ?_)
      refine s_bytesString tabOk rfl rfl rfl rfl ho ?_
      repeat' (first | refine s_pure tabOk rfl rfl rfl rfl ?_ | refine Stp.imp ?_ | refine aops_nil ?_ | refine aw_reg ?_ | refine aw_seq ?_ | refine s_pass rfl rfl rfl ?_ | refine s_len tabOk rfl rfl rfl rfl ?_ | refine aw_true rfl ?_ | refine aw_false rfl ?_ | refine blk_exit_other rfl ?_ | refine s_arith tabOk rfl rfl rfl rfl (by simp only [InR]; omega) ?_ | ((first | ((fail_if_success refine s_told rfl rfl ?_); refine s_part rfl rfl rfl ?_ ?_) | refine aw_if rfl ?_ ?_) <;> intro hc <;> (first | replace hc := DecT.imp hc | simp only [decs] at hc | skip)) | refine s_index1n tabOk rfl rfl rfl rfl (by omega) ?_ | refine s_indexn tabOk rfl rfl rfl rfl (by omega) ?_ | refine s_index1 tabOk rfl rfl rfl rfl (by omega) (by omega) ?_ | refine sh_load tabOk (by assumption) rfl rfl rfl rfl (by repeat (first | exact List.Mem.head _ | apply List.Mem.tail)) (by rfl) (by rfl) ?_ | refine sh_loada tabOk (by assumption) rfl rfl rfl rfl (by repeat (first | exact List.Mem.head _ | apply List.Mem.tail)) (by rfl) ?_ | (refine sh_box (by assumption) rfl rfl rfl rfl rfl rfl ?_; intro _ _ _) | (refine sh_alloc tabOk (by assumption) rfl rfl rfl rfl rfl rfl ?_; intro _ _ _) | (refine sh_store tabOk (by assumption) rfl rfl rfl rfl rfl rfl (by repeat (first | exact Upd.here | apply Upd.there)) (by rfl) ?_; intro _ _) | (refine sh_lit tabOk (by assumption) rfl rfl rfl rfl rfl rfl rfl rfl rfl rfl rfl ?_; intro _ _ _) | refine sh_build tabOk rfl rfl rfl rfl rfl rfl ?_)
      · refine retK_ret tabOk (congrArg Array.toList Try.results24) (by repeat (first | exact rv_nil | apply rv_tmp rfl rfl | apply rv_cellH (by assumption) rfl rfl rfl (by repeat (first | exact List.Mem.head _ | apply List.Mem.tail)) rfl)) ?_
        exact UnH.bad (by rw [hk]; simp only [Bool.and_eq_false_iff, decide_eq_false_iff_not]; exact Or.inr fun h => hc (bs_eq.2 h)) (Hp.sub (by assumption) (by repeat (first | exact List.nil_sublist _ | refine List.Sublist.cons_cons _ ?_ | refine List.Sublist.cons _ ?_)))
      · refine retK_ret tabOk (congrArg Array.toList Try.results24) (by repeat (first | exact rv_nil | apply rv_tmp rfl rfl | apply rv_cellH (by assumption) rfl rfl rfl (by repeat (first | exact List.Mem.head _ | apply List.Mem.tail)) rfl)) ?_
        have hk1 : uOk 35 s = true := by rw [hk]; simp only [Bool.and_eq_true, decide_eq_true_eq]; exact ⟨h1, bs_eq.1 hc⟩
        exact UnH.good hk1 (hval hk1) (by assumption)
    · rw [show (decide ((1 : Int) ≤ (out.length : Int)) && decide (out.length ≤ 128)) = false by simp; omega]
      repeat' (first | refine s_pure tabOk rfl rfl rfl rfl ?_ | refine Stp.imp ?_ | refine aops_nil ?_ | refine aw_reg ?_ | refine aw_seq ?_ | refine s_pass rfl rfl rfl ?_ | refine s_len tabOk rfl rfl rfl rfl ?_ | refine aw_true rfl ?_ | refine aw_false rfl ?_ | refine blk_exit_other rfl ?_ | refine s_arith tabOk rfl rfl rfl rfl (by simp only [InR]; omega) ?_ | ((first | ((fail_if_success refine s_told rfl rfl ?_); refine s_part rfl rfl rfl ?_ ?_) | refine aw_if rfl ?_ ?_) <;> intro hc <;> (first | replace hc := DecT.imp hc | simp only [decs] at hc | skip)) | refine s_index1n tabOk rfl rfl rfl rfl (by omega) ?_ | refine s_indexn tabOk rfl rfl rfl rfl (by omega) ?_ | refine s_index1 tabOk rfl rfl rfl rfl (by omega) (by omega) ?_ | refine sh_load tabOk (by assumption) rfl rfl rfl rfl (by repeat (first | exact List.Mem.head _ | apply List.Mem.tail)) (by rfl) (by rfl) ?_ | refine sh_loada tabOk (by assumption) rfl rfl rfl rfl (by repeat (first | exact List.Mem.head _ | apply List.Mem.tail)) (by rfl) ?_ | (refine sh_box (by assumption) rfl rfl rfl rfl rfl rfl ?_; intro _ _ _) | (refine sh_alloc tabOk (by assumption) rfl rfl rfl rfl rfl rfl ?_; intro _ _ _) | (refine sh_store tabOk (by assumption) rfl rfl rfl rfl rfl rfl (by repeat (first | exact Upd.here | apply Upd.there)) (by rfl) ?_; intro _ _) | (refine sh_lit tabOk (by assumption) rfl rfl rfl rfl rfl rfl rfl rfl rfl rfl rfl ?_; intro _ _ _) | refine sh_build tabOk rfl rfl rfl rfl rfl rfl ?_)
      refine retK_ret tabOk (congrArg Array.toList Try.results24) (by repeat (first | exact rv_nil | apply rv_tmp rfl rfl | apply rv_cellH (by assumption) rfl rfl rfl (by repeat (first | exact List.Mem.head _ | apply List.Mem.tail)) rfl)) ?_
      exact UnH.bad (by rw [hk]; simp only [Bool.and_eq_false_iff, decide_eq_false_iff_not]; exact Or.inl h1) (Hp.sub (by assumption) (by repeat (first | exact List.nil_sublist _ | refine List.Sublist.cons_cons _ ?_ | refine List.Sublist.cons _ ?_)))
theorem uVal_len {lim : Nat} (s : ByteArray) : (uVal lim s).length ≤ 128 := by
  cases hk : uOk lim s with
  | false => rw [uVal_bad hk]; simp
  | true =>
    cases hq : uTo lim s s.size with
    | none => unfold uOk at hk; rw [hq] at hk; cases hk
    | some st => rw [uVal_some hq hk]; exact (uTo_inv (Nat.le_refl _) hq).ol
end
end Go.Proofs.Ytmplincflbhmiaa
