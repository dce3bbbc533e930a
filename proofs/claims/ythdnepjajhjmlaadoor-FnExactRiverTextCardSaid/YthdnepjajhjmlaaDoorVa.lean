/- Texts cut at a byte: the plain law of strings.Split, and of a loop that cuts. -/
import Derived.Test.YthdnepjajhjmlaaDoorFa
import Derived.Lib.SplitLaws
namespace Go.Proofs.YthdnepjajhjmlaaDoor
set_option linter.unusedSimpArgs false
set_option linter.unusedVariables false
open Go Cn Go.RowKit
def cutL (c : UInt8) : List UInt8 → List (List UInt8)
  | [] => [[]]
  | b :: l => if b = c then [] :: cutL c l else match cutL c l with
    | [] => [[b]]
    | h :: t => (b :: h) :: t
theorem cutL_ne (c : UInt8) : ∀ l, cutL c l ≠ []
  | [] => by simp [cutL]
  | b :: l => by
    unfold cutL
    split
    · simp
    · split <;> simp
theorem cutL_hit {c : UInt8} {b : List UInt8} : ∀ {a : List UInt8}, c ∉ a → cutL c (a ++ c :: b) = a :: cutL c b
  | [], _ => by simp [cutL]
  | x :: a, h => by
    simp only [List.mem_cons, not_or] at h
    rw [List.cons_append, cutL, if_neg (fun e => h.1 e.symm), cutL_hit h.2]
theorem cutL_none {c : UInt8} : ∀ {a : List UInt8}, c ∉ a → cutL c a = [a]
  | [], _ => rfl
  | x :: a, h => by
    simp only [List.mem_cons, not_or] at h
    rw [cutL, if_neg (fun e => h.1 e.symm), cutL_none h.2]
theorem index_hit {c : UInt8} {b : List UInt8} : ∀ {a : List UInt8}, c ∉ a → Lib.index (a ++ c :: b) [c] = (a.length : Int)
  | [], _ => by simp [Lib.index, List.isPrefixOf]
  | x :: a, h => by
    simp only [List.mem_cons, not_or] at h
    have hp : ([c] : List UInt8).isPrefixOf (x :: (a ++ c :: b)) = false := by simp [List.isPrefixOf, h.1]
    rw [List.cons_append, Lib.index, hp, index_hit h.2]
    have : ((a.length : Int) == -1) = false := beq_eq_false_iff_ne.2 (by omega)
    rw [this]
    simp
theorem index_none {c : UInt8} : ∀ {a : List UInt8}, c ∉ a → Lib.index a [c] = -1
  | [], _ => by simp [Lib.index]
  | x :: a, h => by
    simp only [List.mem_cons, not_or] at h
    have hp : ([c] : List UInt8).isPrefixOf (x :: a) = false := by simp [List.isPrefixOf, h.1]
    rw [Lib.index, hp, index_none h.2]
    simp
/-- a list parts at the first of a byte -/
theorem part_at (c : UInt8) : ∀ l : List UInt8, c ∉ l ∨ ∃ a b, l = a ++ c :: b ∧ c ∉ a
  | [] => .inl (by simp)
  | x :: l => by
    by_cases hx : x = c
    · exact .inr ⟨[], l, by rw [hx]; rfl, by simp⟩
    · rcases part_at c l with h | ⟨a, b, rfl, h⟩
      · exact .inl (by simp only [List.mem_cons, not_or]; exact ⟨fun e => hx e.symm, h⟩)
      · exact .inr ⟨x :: a, b, rfl, by simp only [List.mem_cons, not_or]; exact ⟨fun e => hx e.symm, h⟩⟩
theorem splitK_cut (c : UInt8) : ∀ (n : Nat) (l : List UInt8), l.length ≤ n → Lib.splitK [c] 0 (l.count c) l = cutL c l
  | n, l, hn => by
    rcases part_at c l with h | ⟨a, b, rfl, h⟩
    · rw [List.count_eq_zero.2 h, cutL_none h]; rfl
    · have e1 : (a ++ c :: b).count c = b.count c + 1 := by rw [List.count_append, List.count_eq_zero.2 h, List.count_cons_self]; omega
      have hi := index_hit (b := b) h
      cases n with
      | zero => simp at hn
      | succ n =>
        have ih := splitK_cut c n b (by simp at hn; omega)
        rw [e1, Lib.splitK, hi]
        have hne : ((a.length : Int) == -1) = false := beq_eq_false_iff_ne.2 (by omega)
        rw [hne, cutL_hit h]
        simp only [Bool.false_eq_true, if_false, Int.toNat_natCast, Nat.add_zero, List.length_cons, List.length_nil, Nat.zero_add]
        rw [List.take_left' rfl, show List.drop (a.length + 1) (a ++ c :: b) = b by rw [← List.drop_drop, List.drop_left' rfl]; rfl, ih]
def ofL (l : List UInt8) : ByteArray := ⟨l.toArray⟩
theorem ofL_data (l : List UInt8) : (ofL l).data.toList = l := rfl
theorem ofL_eq (s : ByteArray) : ofL s.data.toList = s := rfl
/-- the texts between the bytes c of a text -/
def cutB (c : UInt8) (s : ByteArray) : List ByteArray := (cutL c s.data.toList).map ofL
theorem cutB_ne (c : UInt8) (s : ByteArray) : cutB c s ≠ [] := by
  unfold cutB
  simpa using cutL_ne c _
theorem split_cut (c : UInt8) (s : ByteArray) : Lib.splitB ⟨#[c]⟩ 0 (Lib.countB s ⟨#[c]⟩) s = cutB c s := by
  have h := Lib.splitB_data ⟨#[c]⟩ 0 (Lib.countB s ⟨#[c]⟩) s
  have hc : Lib.countB s ⟨#[c]⟩ = s.data.toList.count c := Lib.count_one c s.data.toList
  rw [hc] at h ⊢
  rw [show (ByteArray.mk #[c]).data.toList = [c] from rfl, splitK_cut c _ _ (Nat.le_refl _)] at h
  unfold cutB
  rw [← h, List.map_map]
  exact (List.map_id _).symm.trans (List.map_congr_left fun x _ => by simp [Function.comp, ofL])
theorem split_count (c : UInt8) (s : ByteArray) : Lib.countB s ⟨#[c]⟩ + 1 = (cutB c s).length := by
  rw [← split_cut, Lib.splitB_all ⟨#[c]⟩ (Nat.le_refl 1) 0 _ s rfl]
theorem cutL_len (c : UInt8) : ∀ l, (cutL c l).length = l.count c + 1
  | [] => rfl
  | b :: l => by
    by_cases h : b = c
    · subst h; rw [cutL, if_pos rfl, List.length_cons, cutL_len, List.count_cons_self]
    · rw [cutL, if_neg h, List.count_cons_of_ne (by simpa using h), ← cutL_len c l]
      cases e : cutL c l with
      | nil => exact absurd e (cutL_ne c l)
      | cons _ _ => rfl
theorem cutB_len (c : UInt8) (s : ByteArray) : (cutB c s).length ≤ s.size + 1 := by
  unfold cutB
  rw [List.length_map, cutL_len]
  have := List.count_le_length (a := c) (l := s.data.toList)
  have e : s.data.toList.length = s.size := Array.length_toList
  omega
attribute [irreducible] cutB
end Go.Proofs.YthdnepjajhjmlaaDoor
