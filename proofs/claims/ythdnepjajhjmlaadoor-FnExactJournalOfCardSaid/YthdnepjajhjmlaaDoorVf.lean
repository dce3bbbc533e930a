/- A text cut once; journals recovered: plain. -/
import Derived.Test.YthdnepjajhjmlaaDoorVc
import Derived.Test.YthdnepjajhjmlaaDoorVe
namespace Go.Proofs.YthdnepjajhjmlaaDoor
set_option linter.unusedSimpArgs false
set_option linter.unusedVariables false
open Go Cn Go.RowKit
/-- how many bytes stand ahead of the first c -/
def fstN (c : UInt8) (s : ByteArray) : Nat := (s.data.toList.takeWhile (· != c)).length
def cutF (c : UInt8) (s : ByteArray) : Bool := decide (fstN c s < s.size)
def cutA (c : UInt8) (s : ByteArray) : ByteArray := s.extract 0 (fstN c s)
def cutZ (c : UInt8) (s : ByteArray) : ByteArray := s.extract (fstN c s + 1) s.size
theorem tw_hit {c : UInt8} {b : List UInt8} : ∀ {a : List UInt8}, c ∉ a → (a ++ c :: b).takeWhile (· != c) = a
  | [], _ => by simp
  | x :: a, h => by
    simp only [List.mem_cons, not_or] at h
    rw [List.cons_append, List.takeWhile_cons, if_pos (by simpa using fun e => h.1 e.symm), tw_hit h.2]
theorem tw_none {c : UInt8} : ∀ {a : List UInt8}, c ∉ a → a.takeWhile (· != c) = a
  | [], _ => rfl
  | x :: a, h => by
    simp only [List.mem_cons, not_or] at h
    rw [List.takeWhile_cons, if_pos (by simpa using fun e => h.1 e.symm), tw_none h.2]
theorem fstN_none {c : UInt8} {s : ByteArray} (h : c ∉ s.data.toList) : fstN c s = s.size ∧ cutF c s = false := by
  have e : fstN c s = s.size := by unfold fstN; rw [tw_none h, sz_len]
  refine ⟨e, ?_⟩
  unfold cutF
  rw [e]
  simp
theorem fstN_hit {c : UInt8} {s : ByteArray} {a b : List UInt8} (e : s.data.toList = a ++ c :: b) (h : c ∉ a) : fstN c s = a.length ∧ cutF c s = true ∧ cutA c s = ofL a ∧ cutZ c s = ofL b := by
  have e1 : fstN c s = a.length := by unfold fstN; rw [e, tw_hit h]
  have hs : s.size = a.length + b.length + 1 := by rw [← sz_len, e]; simp; omega
  refine ⟨e1, ?_, ?_, ?_⟩
  · unfold cutF; rw [e1]; simp; omega
  · unfold cutA
    rw [e1, ← ofL_extract, e]
    simp
  · unfold cutZ
    rw [e1, ← ofL_extract, e]
    rw [show List.drop (a.length + 1) (a ++ c :: b) = b by rw [← List.drop_drop, List.drop_left' rfl]; rfl, List.take_of_length_le (by omega)]
theorem fstN_le (c : UInt8) (s : ByteArray) : fstN c s ≤ s.size := by
  unfold fstN
  rw [← sz_len]
  exact (List.takeWhile_sublist _).length_le
/-- at the first c -/
theorem fstN_at {c : UInt8} {s : ByteArray} (h : fstN c s < s.size) : bt s (fstN c s) = c.toNat := by
  rcases part_at c s.data.toList with h1 | ⟨a, b, e, h1⟩
  · have := (fstN_none h1).1; omega
  · rw [(fstN_hit e h1).1, bt_get (by rw [← (fstN_hit e h1).1]; exact h), e]
    simp
theorem fstN_before {c : UInt8} {s : ByteArray} {k : Nat} (h : k < fstN c s) : bt s k ≠ c.toNat := by
  have hle := fstN_le c s
  intro hb
  have hg := (bt_get (by omega)).1 hb
  have hk : k < (s.data.toList.takeWhile (· != c)).length := h
  have h2 : (s.data.toList.takeWhile (· != c))[k]? = some c := by
    rw [List.getElem?_eq_getElem hk, ← hg, (List.takeWhile_prefix (p := (· != c)) (l := s.data.toList)).getElem hk, List.getElem?_eq_getElem]
  have h3 := List.mem_of_getElem? h2
  have := List.all_eq_true.1 (List.all_takeWhile (p := (· != c)) (l := s.data.toList)) c h3
  simp at this
theorem fstN_eq {c : UInt8} {s : ByteArray} {k : Nat} (h1 : k < s.size) (h2 : bt s k = c.toNat) (h3 : k ≤ fstN c s) : k = fstN c s := by
  rcases Nat.lt_or_ge k (fstN c s) with h | h
  · exact absurd h2 (fstN_before h)
  · omega
theorem cut_one (c : UInt8) (s : ByteArray) : Lib.cut s.data.toList [c] = if cutF c s then ((cutA c s).data.toList, (cutZ c s).data.toList, true) else (s.data.toList, [], false) := by
  rcases part_at c s.data.toList with h1 | ⟨a, b, e, h1⟩
  · rw [(fstN_none h1).2]
    unfold Lib.cut
    rw [index_none h1, if_neg (by omega)]; rfl
  · obtain ⟨-, e1, e2, e3⟩ := fstN_hit e h1
    rw [e1, e2, e3]
    unfold Lib.cut
    rw [e, index_hit h1, if_pos (by omega)]
    simp only [Int.toNat_natCast, List.length_cons, List.length_nil, Nat.zero_add, if_true, ofL_data]
    rw [List.take_left' rfl, show List.drop (a.length + 1) (a ++ c :: b) = b by rw [← List.drop_drop, List.drop_left' rfl]; rfl]
section
variable {B : Nat} {W : World}
def cutR (c : UInt8) (s : ByteArray) : Value := if cutF c s then .tuple #[.string (cutA c s), .string (cutZ c s), .bool true] else .tuple #[.string s, .string ⟨#[]⟩, .bool false]
theorem c_Cut (hG : LibG W) {s : ByteArray} {c : UInt8} (hs : s.size ≤ 1048576) :
    ACalls Tryd.prog B 60 [.string s, .string ⟨#[c]⟩] W (fun r W' => r = cutR c s ∧ W' = W) := by
  refine acalls_intro fun xs w h1 h2 h3 => ?_
  subst h2
  obtain ⟨m, hm⟩ := hG.raw
  rw [strs2 h1]
  refine (Tryd.strings_Cut s ⟨#[c]⟩ m w (by omega) hm).mono fun e w' ⟨he, n, hw⟩ => ?_
  subst hw
  rw [show (ByteArray.mk #[c]).data.toList = [c] from rfl, cut_one] at he
  refine ⟨_, he, h3, ?_, rfl⟩
  unfold cutR
  cases cutF c s with
  | false =>
    rw [if_neg (by simp), if_neg (by simp)]
    show cv (.tuple #[.string s, .string ⟨#[]⟩, .bool false]) = _
    simp [cv, c1, cl]
  | true =>
    rw [if_pos rfl, if_pos rfl]
    show cv (.tuple #[.string (cutA c s), .string (cutZ c s), .bool true]) = _
    simp [cv, c1, cl]
end
/-! ### journals -/
attribute [irreducible] fstN
def ckJ (ls : List ByteArray) : Nat → Int
  | 0 => 0
  | j + 1 => chk (ckJ ls j) (cutZ 32 (ls.getD j ⟨#[]⟩)) (cutZ 32 (ls.getD j ⟨#[]⟩)).size
theorem ckJ_range (ls : List ByteArray) : ∀ j, 0 ≤ ckJ ls j ∧ ckJ ls j < 65003
  | 0 => by unfold ckJ; omega
  | j + 1 => by unfold ckJ; exact chk_range (ckJ_range ls j) _
def accJ (ls : List ByteArray) (j : Nat) : Bool := cutF 32 (ls.getD j ⟨#[]⟩) && decide (cutA 32 (ls.getD j ⟨#[]⟩) = decS (ckJ ls (j + 1)))
def outJ (ls : List ByteArray) (k : Nat) : List ByteArray := (List.range k).map fun j => cutZ 32 (ls.getD j ⟨#[]⟩)
theorem outJ_zero (ls : List ByteArray) : outJ ls 0 = [] := rfl
theorem outJ_succ (ls : List ByteArray) (k : Nat) : outJ ls (k + 1) = outJ ls k ++ [cutZ 32 (ls.getD k ⟨#[]⟩)] := by simp [outJ, List.range_succ]
theorem outJ_len (ls : List ByteArray) (k : Nat) : (outJ ls k).length = k := by simp [outJ]
def nJ (ls : List ByteArray) : Nat → Nat
  | 0 => 0
  | k + 1 => nJ ls k + (ls.getD k ⟨#[]⟩).size + 1
theorem nJ_zero (ls : List ByteArray) : nJ ls 0 = 0 := rfl
theorem nJ_succ (ls : List ByteArray) (k : Nat) : nJ ls (k + 1) = nJ ls k + (ls.getD k ⟨#[]⟩).size + 1 := rfl
theorem ckJ_zero (ls : List ByteArray) : ckJ ls 0 = 0 := rfl
theorem ckJ_succ (ls : List ByteArray) (j : Nat) : ckJ ls (j + 1) = chk (ckJ ls j) (cutZ 32 (ls.getD j ⟨#[]⟩)) (cutZ 32 (ls.getD j ⟨#[]⟩)).size := rfl
/-- how many lines are taken -/
def rjK (ls : List ByteArray) : Nat := ((List.range (ls.length - 1)).takeWhile (accJ ls)).length
theorem tw_len {p : Nat → Bool} : ∀ (l : List Nat) (k : Nat), k ≤ l.length → (∀ i, i < k → p (l.getD i 0) = true) → (k = l.length ∨ p (l.getD k 0) = false) → (l.takeWhile p).length = k
  | [], k, hk, _, _ => by simp at hk ⊢; omega
  | x :: l, 0, _, _, h => by
    rcases h with h | h
    · simp at h
    · rw [List.takeWhile_cons]; simp at h; rw [h]; rfl
  | x :: l, k + 1, hk, h1, h2 => by
    have hx : p x = true := by simpa using h1 0 (by omega)
    rw [List.takeWhile_cons, if_pos hx, List.length_cons, tw_len l k (by simpa using hk) (fun i hi => by simpa using h1 (i + 1) (by omega)) (by simpa using h2)]
theorem rjK_eq {ls : List ByteArray} {k : Nat} (hk : k ≤ ls.length - 1) (h1 : ∀ i, i < k → accJ ls i = true) (h2 : k = ls.length - 1 ∨ accJ ls k = false) : rjK ls = k := by
  unfold rjK
  refine tw_len _ k (by simpa using hk) (fun i hi => ?_) ?_
  · rw [show (List.range (ls.length - 1)).getD i 0 = i by simp [List.getD_eq_getElem?_getD, show i < ls.length - 1 by omega]]
    exact h1 i hi
  · rcases h2 with h2 | h2
    · exact .inl (by simpa using h2)
    · rcases Nat.lt_or_ge k (ls.length - 1) with h3 | h3
      · refine .inr ?_
        rw [show (List.range (ls.length - 1)).getD k 0 = k by simp [List.getD_eq_getElem?_getD, h3]]
        exact h2
      · exact .inl (by simp; omega)
attribute [irreducible] ckJ nJ rjK outJ accJ
/-- so far a journal is taken -/
structure TakJ (s : ByteArray) (k : Nat) : Prop where
  le : k ≤ (cutB 10 s).length - 1
  acc : ∀ i, i < k → accJ (cutB 10 s) i = true
theorem TakJ.zero (s : ByteArray) : TakJ s 0 := ⟨Nat.zero_le _, fun _ h => absurd h (Nat.not_lt_zero _)⟩
theorem TakJ.next {s : ByteArray} {k : Nat} (h : TakJ s k) (hk : k < (cutB 10 s).length - 1) (ha : accJ (cutB 10 s) k = true) : TakJ s (k + 1) := by
  refine ⟨hk, fun i hi => ?_⟩
  rcases Nat.lt_or_ge i k with h1 | h1
  · exact h.acc i h1
  · rw [show i = k by omega]; exact ha
theorem TakJ.done {s : ByteArray} {k : Nat} (h : TakJ s k) (hk : k = (cutB 10 s).length - 1 ∨ accJ (cutB 10 s) k = false) : rjK (cutB 10 s) = k := rjK_eq h.le h.acc hk
/-- where the k-th line begins -/
structure PosJ (s : ByteArray) (k : Nat) : Prop where
  le : nJ (cutB 10 s) k ≤ s.size
  lt : k < (cutB 10 s).length
  eq : cutB 10 (s.extract (nJ (cutB 10 s) k) s.size) = (cutB 10 s).drop k
theorem PosJ.zero (s : ByteArray) : PosJ s 0 := by
  refine ⟨by rw [nJ_zero]; omega, List.length_pos_iff.2 (cutB_ne 10 s), ?_⟩
  rw [nJ_zero, List.drop_zero]
  congr 1
  rw [← ofL_extract, List.drop_zero, Nat.sub_zero, ← sz_len, List.take_length]
  rfl
theorem cutB_parts {c : UInt8} (s : ByteArray) : (cutF c s = false ∧ cutB c s = [s]) ∨ (cutF c s = true ∧ cutB c s = cutA c s :: cutB c (cutZ c s)) := by
  rcases part_at c s.data.toList with h1 | ⟨a, b, e, h1⟩
  · refine .inl ⟨(fstN_none h1).2, ?_⟩
    unfold cutB
    rw [cutL_none h1]; rfl
  · obtain ⟨-, e1, e2, e3⟩ := fstN_hit e h1
    refine .inr ⟨e1, ?_⟩
    rw [e2, e3]
    unfold cutB
    rw [e, cutL_hit h1]; rfl
theorem PosJ.stop {s : ByteArray} {k : Nat} (h : PosJ s k) (hc : cutF 10 (s.extract (nJ (cutB 10 s) k) s.size) = false) : k = (cutB 10 s).length - 1 := by
  rcases cutB_parts (c := 10) (s.extract (nJ (cutB 10 s) k) s.size) with ⟨-, h2⟩ | ⟨h1, -⟩
  · rw [h.eq] at h2
    have := congrArg List.length h2
    have := h.lt
    simp at *
    omega
  · rw [hc] at h1; cases h1
theorem PosJ.next {s : ByteArray} {k : Nat} (h : PosJ s k) (hc : cutF 10 (s.extract (nJ (cutB 10 s) k) s.size) = true) :
    cutA 10 (s.extract (nJ (cutB 10 s) k) s.size) = (cutB 10 s).getD k ⟨#[]⟩ ∧ k < (cutB 10 s).length - 1 ∧ PosJ s (k + 1) := by
  have hlt := h.lt
  have hle := h.le
  rcases cutB_parts (c := 10) (s.extract (nJ (cutB 10 s) k) s.size) with ⟨h1, -⟩ | ⟨h1, h2⟩
  · rw [hc] at h1; cases h1
  · rw [h.eq, List.drop_eq_getElem_cons hlt] at h2
    injection h2 with h3 h4
    have hg : cutA 10 (s.extract (nJ (cutB 10 s) k) s.size) = (cutB 10 s).getD k ⟨#[]⟩ := by rw [← h3]; simp [List.getD_eq_getElem?_getD, hlt]
    have hf : fstN 10 (s.extract (nJ (cutB 10 s) k) s.size) < s.size - nJ (cutB 10 s) k := by
      unfold cutF at hc
      rw [extract_size (Nat.le_refl _)] at hc
      simpa using hc
    have hsz : ((cutB 10 s).getD k ⟨#[]⟩).size = fstN 10 (s.extract (nJ (cutB 10 s) k) s.size) := by
      rw [← hg]
      unfold cutA
      rw [extract_size (by rw [extract_size (Nat.le_refl _)]; omega)]; omega
    have hz : cutZ 10 (s.extract (nJ (cutB 10 s) k) s.size) = s.extract (nJ (cutB 10 s) (k + 1)) s.size := by
      unfold cutZ
      rw [extract_size (Nat.le_refl _), ByteArray.extract_extract, nJ_succ, hsz]
      congr 1
      omega
    have hk1 : k + 1 < (cutB 10 s).length := by
      have := cutB_ne 10 (cutZ 10 (s.extract (nJ (cutB 10 s) k) s.size))
      rw [← h4] at this
      have := List.length_pos_iff.2 this
      rw [List.length_drop] at this
      omega
    refine ⟨hg, by omega, ?_, hk1, ?_⟩
    · rw [nJ_succ, hsz]; omega
    · rw [← hz, ← h4]
end Go.Proofs.YthdnepjajhjmlaaDoor
