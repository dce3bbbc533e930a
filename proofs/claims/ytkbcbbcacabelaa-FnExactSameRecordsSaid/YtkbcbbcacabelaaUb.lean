/- Bytes to numbers: plain. -/
import Derived.Test.YtkbcbbcacabelaaFi
namespace Go.Proofs.Ytkbcbbcacabelaa
set_option linter.unusedSimpArgs false
set_option linter.unusedVariables false
open Go Cn Go.RowKit
theorem bsLoop (bs : ByteArray) : ∀ (n i : Nat) (r : List UInt8), n = bs.size - i → ByteArray.toList.loop bs i r = r.reverse ++ bs.data.toList.drop i := by
  have hl : bs.data.toList.length = bs.size := Array.length_toList
  intro n
  induction n with
  | zero =>
    intro i r h
    unfold ByteArray.toList.loop
    rw [if_neg (by omega)]
    have : bs.data.toList.drop i = [] := List.drop_eq_nil_of_le (by omega)
    rw [this, List.append_nil]
  | succ n ih =>
    intro i r h
    unfold ByteArray.toList.loop
    rw [if_pos (by omega), ih (i + 1) _ (by omega)]
    have hi : i < bs.data.toList.length := by omega
    have hi2 : i < bs.data.size := by omega
    rw [List.drop_eq_getElem_cons hi]
    have : bs.get! i = bs.data.toList[i] := by
      show bs.data[i]! = _
      rw [getElem!_pos bs.data i hi2, Array.getElem_toList]
    rw [this, List.reverse_cons, List.append_assoc]
    rfl
theorem bsList (bs : ByteArray) : bs.toList = bs.data.toList := by
  unfold ByteArray.toList
  rw [bsLoop bs _ 0 [] rfl]; rfl
theorem bs_eq {a b : ByteArray} : a.toList = b.toList ↔ a = b := by
  rw [bsList, bsList]
  constructor
  · intro h
    cases a; cases b
    congr 1
    exact Array.toList_inj.1 h
  · rintro rfl; rfl
/-- the bytes of a text -/
def bL (s : ByteArray) : List Nat := (List.range s.size).map (bt s)
theorem bL_len (s : ByteArray) : (bL s).length = s.size := by simp [bL]
theorem bL_get {s : ByteArray} {i : Nat} (h : i < s.size) : (bL s)[i]'(by rw [bL_len]; exact h) = bt s i := by simp [bL]
theorem bL_nums {xs : List Int} (h : ∀ x ∈ xs, 0 ≤ x ∧ x < 256) : bL (strOfNums xs) = xs.map Int.toNat := by
  apply List.ext_getElem
  · rw [bL_len, strOfNums_size]; simp
  · intro i h1 h2
    have hi : i < xs.length := by rw [bL_len, strOfNums_size] at h1; exact h1
    rw [bL_get (by rw [strOfNums_size]; exact hi)]
    have hx := h _ (List.getElem_mem hi)
    simp only [bt, strOfNums_data, List.getElem_map]
    simp [hi]
    omega
theorem byts_rng : ∀ (k z : Nat), z < 128 ^ (k + 1) → ∀ x ∈ byts z, 0 ≤ x ∧ x < 256
  | 0, z, h => by
    rw [byts_lo (by simpa using h)]
    intro x hx
    simp at hx h
    omega
  | k + 1, z, h => by
    by_cases h0 : z < 128
    · rw [byts_lo h0]
      intro x hx
      simp at hx; omega
    · rw [byts_hi h0]
      have h1 : z / 128 < 128 ^ (k + 1) := by
        rw [Nat.div_lt_iff_lt_mul (by decide)]
        rw [Nat.pow_succ] at h; exact h
      intro x hx
      rcases List.mem_cons.1 hx with rfl | hx
      · omega
      · exact byts_rng k _ h1 x hx
theorem packTo_rng (xs : List Nat) : ∀ i, ∀ x ∈ packTo xs i, 0 ≤ x ∧ x < 256
  | 0 => by rw [packTo_zero]; simp
  | i + 1 => by
    rw [packTo_succ]
    intro x hx
    rcases List.mem_append.1 hx with h | h
    · exact packTo_rng xs i x h
    · exact byts_rng 4 _ (Nat.lt_of_lt_of_le (zig_lt _ _) (by decide)) x h
/-- what a group tells -/
def unz (z : Nat) : Int := if z % 2 = 1 then -(((z + 1) / 2 : Nat) : Int) else ((z / 2 : Nat) : Int)
theorem unz_zig {b p : Int} (hb : 0 ≤ b ∧ b < 4294967296) (hp : 0 ≤ p ∧ p < 4294967296) : (p + unz (zig b p)) % 4294967296 = b := by
  unfold unz
  by_cases h : (b - p + 4294967296) % 4294967296 ≥ 2147483648
  · have := zig_hi h
    split <;> omega
  · have := zig_lo h
    split <;> omega
theorem cb_word {x : Nat} (hc : cb .f32 x = x) : cb .f32 (wordOf x).toNat = x := by
  unfold wordOf
  rw [neq_self]
  split
  · rename_i h
    have h2 : cb .f32 x = qnan .f32 := cb_nan h
    rw [hc] at h2
    rw [h2]
    exact cb_nan (qnan_nan .f32)
  · rw [Int.toNat_natCast]; exact hc
structure USt where
  out : List Nat
  pv : Int
  n : Nat
  sh : Nat
def uPv (st : USt) (b : Nat) : Int := (st.pv + unz (st.n + b * 2 ^ st.sh)) % 4294967296
def uStep (lim : Nat) (b : Nat) (st : USt) : Option USt :=
  if 128 ≤ b then (if lim < st.sh + 7 then none else some ⟨st.out, st.pv, st.n + (b - 128) * 2 ^ st.sh, st.sh + 7⟩)
  else if 128 < st.out.length + 1 then none else some ⟨st.out ++ [cb .f32 (uPv st b).toNat], uPv st b, 0, 0⟩
def uRun (lim : Nat) : List Nat → USt → Option USt
  | [], st => some st
  | b :: bs, st => match uStep lim b st with
    | some st' => uRun lim bs st'
    | none => none
theorem uRun_append (lim : Nat) : ∀ (cs bs : List Nat) (st : USt), uRun lim (cs ++ bs) st = match uRun lim cs st with
    | some st' => uRun lim bs st'
    | none => none
  | [], bs, st => rfl
  | a :: cs, bs, st => by
    simp only [List.cons_append, uRun]
    cases uStep lim a st with
    | none => rfl
    | some st' => exact uRun_append lim cs bs st'
def u0 : USt := ⟨[], 0, 0, 0⟩
def uTo (lim : Nat) (s : ByteArray) (i : Nat) : Option USt := uRun lim ((bL s).take i) u0
theorem uTo_zero (lim : Nat) (s : ByteArray) : uTo lim s 0 = some u0 := rfl
theorem uTo_succ {lim : Nat} {s : ByteArray} {i : Nat} (h : i < s.size) : uTo lim s (i + 1) = match uTo lim s i with
    | some st => uStep lim (bt s i) st
    | none => none := by
  unfold uTo
  rw [List.take_succ_eq_append_getElem (by rw [bL_len]; exact h), bL_get h, uRun_append]
  cases uRun lim ((bL s).take i) u0 with
  | none => rfl
  | some st =>
    simp only [uRun]
    cases uStep lim (bt s i) st <;> rfl
theorem uTo_none {lim : Nat} {s : ByteArray} {i : Nat} (h : uTo lim s i = none) : ∀ j, i ≤ j → j ≤ s.size → uTo lim s j = none := by
  intro j hj hs
  unfold uTo at h ⊢
  have e : (bL s).take j = (bL s).take i ++ ((bL s).take j).drop i := by
    conv => lhs; rw [← List.take_append_drop i ((bL s).take j)]
    rw [List.take_take, Nat.min_eq_left hj]
  rw [e, uRun_append, h]
/-- what always holds of the state -/
structure UInv (lim : Nat) (st : USt) : Prop where
  ol : st.out.length ≤ 128
  oc : ∀ x ∈ st.out, cb .f32 x = x
  ob : ∀ x ∈ st.out, x < 4294967296
  pr : 0 ≤ st.pv ∧ st.pv < 4294967296
  nr : st.n < 2 ^ st.sh
  sr : st.sh ≤ lim
theorem u0_inv (lim : Nat) : UInv lim u0 := ⟨by simp [u0], by simp [u0], by simp [u0], by simp [u0], by simp [u0], by simp [u0]⟩
theorem cbLt {x : Nat} (h : x < 4294967296) : cb .f32 x < 4294967296 := by
  unfold cb; split
  · decide
  · exact h
theorem UInv.step {lim b : Nat} {st st' : USt} (h : UInv lim st) (hb : b < 256) (e : uStep lim b st = some st') : UInv lim st' := by
  unfold uStep at e
  split at e
  · split at e
    · cases e
    · cases e
      refine ⟨h.ol, h.oc, h.ob, h.pr, ?_, by dsimp only; omega⟩
      have := h.nr
      have h2 : (b - 128) * 2 ^ st.sh ≤ 127 * 2 ^ st.sh := Nat.mul_le_mul_right _ (by omega)
      have h3 : 2 ^ (st.sh + 7) = 128 * 2 ^ st.sh := by rw [Nat.pow_add]; omega
      dsimp only
      rw [h3]; omega
  · split at e
    · cases e
    · cases e
      have hp : 0 ≤ uPv st b ∧ uPv st b < 4294967296 := by unfold uPv; omega
      refine ⟨by simp; omega, ?_, ?_, hp, by simp, by simp⟩
      · intro x hx
        rcases List.mem_append.1 hx with h1 | h1
        · exact h.oc x h1
        · rw [List.mem_singleton.1 h1, cb_cb]
      · intro x hx
        rcases List.mem_append.1 hx with h1 | h1
        · exact h.ob x h1
        · rw [List.mem_singleton.1 h1]; exact cbLt (by omega)
theorem uTo_inv {lim : Nat} {s : ByteArray} : ∀ {i : Nat} {st : USt}, i ≤ s.size → uTo lim s i = some st → UInv lim st
  | 0, st, _, h => by rw [uTo_zero] at h; cases h; exact u0_inv lim
  | i + 1, st, hi, h => by
    rw [uTo_succ hi] at h
    cases hq : uTo lim s i with
    | none => rw [hq] at h; cases h
    | some st1 =>
      rw [hq] at h
      exact (uTo_inv (by omega) hq).step (bt_lt s i) h
/-- a group read -/
theorem uRun_byts (lim : Nat) : ∀ (k z : Nat) (st : USt) (rest : List Nat), z < 128 ^ (k + 1) → st.sh + 7 * k ≤ lim → st.out.length < 128 →
    uRun lim ((byts z).map Int.toNat ++ rest) st = uRun lim rest ⟨st.out ++ [cb .f32 (uPv st z).toNat], uPv st z, 0, 0⟩ := by
  intro k
  induction k with
  | zero =>
    intro z st rest hz hs ho
    have hz : z < 128 := by simpa using hz
    rw [byts_lo hz]
    simp only [List.map_cons, List.map_nil, List.cons_append, List.nil_append, uRun, Int.toNat_natCast]
    unfold uStep
    rw [if_neg (by omega), if_neg (by omega)]
  | succ k ih =>
    intro z st rest hz hs ho
    by_cases h0 : z < 128
    · rw [byts_lo h0]
      simp only [List.map_cons, List.map_nil, List.cons_append, List.nil_append, uRun, Int.toNat_natCast]
      unfold uStep
      rw [if_neg (by omega), if_neg (by omega)]
    · have h1 : z / 128 < 128 ^ (k + 1) := by
        rw [Nat.div_lt_iff_lt_mul (by decide)]
        rw [Nat.pow_succ] at hz; exact hz
      rw [byts_hi h0]
      simp only [List.map_cons, List.cons_append, uRun, Int.toNat_natCast]
      have e : uStep lim (z % 128 + 128) st = some ⟨st.out, st.pv, st.n + (z % 128) * 2 ^ st.sh, st.sh + 7⟩ := by
        unfold uStep
        rw [if_pos (by omega), if_neg (by omega), Nat.add_sub_cancel]
      rw [e]
      simp only
      rw [ih (z / 128) ⟨st.out, st.pv, st.n + (z % 128) * 2 ^ st.sh, st.sh + 7⟩ rest h1 (by dsimp only; omega) ho]
      have e2 : uPv ⟨st.out, st.pv, st.n + (z % 128) * 2 ^ st.sh, st.sh + 7⟩ (z / 128) = uPv st z := by
        unfold uPv
        dsimp only
        have h3 : 2 ^ (st.sh + 7) = 128 * 2 ^ st.sh := by rw [Nat.pow_add]; omega
        have h4 : st.n + z % 128 * 2 ^ st.sh + z / 128 * 2 ^ (st.sh + 7) = st.n + z * 2 ^ st.sh := by
          rw [h3, ← Nat.mul_assoc, Nat.add_assoc, ← Nat.add_mul]
          congr 2; omega
        rw [h4]
      rw [e2]
theorem uRun_pack {lim : Nat} (hl : 28 ≤ lim) {xs : List Nat} (hx : xs.length ≤ 128) (hc : ∀ x ∈ xs, cb .f32 x = x) (hb : ∀ x ∈ xs, x < 4294967296) : ∀ i, i ≤ xs.length → uRun lim ((packTo xs i).map Int.toNat) u0 = some ⟨xs.take i, prevW xs i, 0, 0⟩
  | 0, _ => by rw [packTo_zero, prevW_zero]; rfl
  | i + 1, hi => by
    have hm : xs.getD i 0 ∈ xs := by rw [List.getD_eq_getElem?_getD, List.getElem?_eq_getElem hi]; exact List.getElem_mem hi
    have hw := wordOf_range (hb _ hm)
    have hp : 0 ≤ prevW xs i ∧ prevW xs i < 4294967296 := by
      cases i with
      | zero => rw [prevW_zero]; omega
      | succ j =>
        rw [prevW_succ]
        have hj : j < xs.length := by omega
        exact wordOf_range (hb _ (by rw [List.getD_eq_getElem?_getD, List.getElem?_eq_getElem hj]; exact List.getElem_mem hj))
    rw [packTo_succ, List.map_append, uRun_append, uRun_pack hl hx hc hb i (by omega)]
    simp only
    have h := uRun_byts lim 4 (zig (wordOf (xs.getD i 0)) (prevW xs i)) ⟨xs.take i, prevW xs i, 0, 0⟩ [] (Nat.lt_of_lt_of_le (zig_lt _ _) (by decide)) (by dsimp only; omega) (by simp; omega)
    rw [List.append_nil] at h
    rw [h]
    have e : uPv ⟨xs.take i, prevW xs i, 0, 0⟩ (zig (wordOf (xs.getD i 0)) (prevW xs i)) = wordOf (xs.getD i 0) := by
      unfold uPv
      dsimp only
      rw [Nat.pow_zero, Nat.mul_one, Nat.zero_add]
      exact unz_zig hw hp
    simp only [uRun]
    have et : xs.take (i + 1) = xs.take i ++ [xs.getD i 0] := by rw [List.take_succ_eq_append_getElem hi, List.getD_eq_getElem?_getD, List.getElem?_eq_getElem hi]; rfl
    rw [e, cb_word (hc _ hm), prevW_succ, et]
/-! ### what the decoders answer -/
def uOk (lim : Nat) (s : ByteArray) : Bool := match uTo lim s s.size with
  | some st => decide (1 ≤ st.out.length) && decide (strOfNums (packTo st.out st.out.length) = s)
  | none => false
def uVal (lim : Nat) (s : ByteArray) : List Nat := if uOk lim s then (match uTo lim s s.size with
  | some st => st.out
  | none => []) else []
theorem uOk_some {lim : Nat} {s : ByteArray} {st : USt} (h : uTo lim s s.size = some st) : uOk lim s = (decide (1 ≤ st.out.length) && decide (strOfNums (packTo st.out st.out.length) = s)) := by unfold uOk; rw [h]
theorem uOk_none {lim : Nat} {s : ByteArray} {i : Nat} (hi : i ≤ s.size) (h : uTo lim s i = none) : uOk lim s = false := by unfold uOk; rw [uTo_none h _ hi (Nat.le_refl _)]
theorem uVal_some {lim : Nat} {s : ByteArray} {st : USt} (h : uTo lim s s.size = some st) (hk : uOk lim s = true) : uVal lim s = st.out := by unfold uVal; rw [if_pos hk, h]
theorem uVal_bad {lim : Nat} {s : ByteArray} (hk : uOk lim s = false) : uVal lim s = [] := by unfold uVal; rw [hk]; rfl
theorem uOk_of {lim lim' : Nat} (hl' : 28 ≤ lim') {s : ByteArray} (h : uOk lim s = true) : uOk lim' s = true ∧ uVal lim' s = uVal lim s := by
  cases hq : uTo lim s s.size with
  | none => unfold uOk at h; rw [hq] at h; cases h
  | some st =>
    have hv := uVal_some hq h
    have hI := uTo_inv (Nat.le_refl _) hq
    rw [uOk_some hq] at h
    simp only [Bool.and_eq_true, decide_eq_true_eq] at h
    obtain ⟨h1, h2⟩ := h
    have hp := uRun_pack hl' hI.ol hI.oc hI.ob _ (Nat.le_refl _)
    rw [List.take_length] at hp
    have hr : uTo lim' s s.size = some ⟨st.out, prevW st.out st.out.length, 0, 0⟩ := by
      unfold uTo
      rw [← bL_len s, List.take_length]
      conv => lhs; rw [← h2]
      rw [bL_nums (packTo_rng _ _)]
      exact hp
    have hk : uOk lim' s = true := by
      rw [uOk_some hr]
      simp only [Bool.and_eq_true, decide_eq_true_eq]
      exact ⟨h1, h2⟩
    exact ⟨hk, by rw [uVal_some hr hk, hv]⟩
theorem uOk_same (s : ByteArray) : uOk 35 s = uOk 28 s ∧ uVal 35 s = uVal 28 s := by
  cases h : uOk 28 s with
  | true =>
    obtain ⟨h1, h2⟩ := uOk_of (lim' := 35) (by decide) h
    exact ⟨h1, h2⟩
  | false =>
    cases h3 : uOk 35 s with
    | true =>
      obtain ⟨h1, -⟩ := uOk_of (lim' := 28) (by decide) h3
      rw [h] at h1; cases h1
    | false => exact ⟨rfl, by rw [uVal_bad h, uVal_bad h3]⟩
end Go.Proofs.Ytkbcbbcacabelaa
