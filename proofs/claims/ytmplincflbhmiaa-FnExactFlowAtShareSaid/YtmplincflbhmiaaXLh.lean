/- Square roots: what is narrowed is never too great. -/
import Derived.Test.YtmplincflbhmiaaXFb
import Derived.Test.YtmplincflbhmiaaCn13
import Derived.Test.YtmplincflbhmiaaHc
import GoSem.Extern.MathSqrt
namespace Go.Proofs.Ytmplincflbhmiaa
set_option linter.unusedSimpArgs false
set_option linter.unusedVariables false
open Go Cn Go.RowKit
theorem dec32 (x : Nat) : FloatKind.f32.decode x = (if x % 2147483648 < 8388608 then .number (x / 2147483648 % 2 == 1) (x % 2147483648) (-149) else if x % 2147483648 < 2139095040 then .number (x / 2147483648 % 2 == 1) (8388608 + x % 2147483648 % 8388608) (-149 + ((x % 2147483648 / 8388608 - 1 : Nat) : Int)) else if x % 2147483648 = 2139095040 then .infinity (x / 2147483648 % 2 == 1) else .nan (x / 2147483648 % 2 == 1) (x % 2147483648 - 2139095040)) := rfl
/-! ### the sign, seen in the wider number -/
theorem dec64 (x : Nat) : FloatKind.f64.decode x = (if x % 9223372036854775808 < 4503599627370496 then .number (x / 9223372036854775808 % 2 == 1) (x % 9223372036854775808) (-1074) else if x % 9223372036854775808 < 9218868437227405312 then .number (x / 9223372036854775808 % 2 == 1) (4503599627370496 + x % 9223372036854775808 % 4503599627370496) (-1074 + ((x % 9223372036854775808 / 4503599627370496 - 1 : Nat) : Int)) else if x % 9223372036854775808 = 9218868437227405312 then .infinity (x / 9223372036854775808 % 2 == 1) else .nan (x / 9223372036854775808 % 2 == 1) (x % 9223372036854775808 - 9218868437227405312)) := rfl
theorem word64 (s : Bool) (r : Nat) : FloatKind.f64.format.word s r = if s then 9223372036854775808 + r else r := rfl
end Go.Proofs.Ytmplincflbhmiaa
namespace Go.Proofs.Ytmplincflbhmiaa
set_option linter.unusedSimpArgs false
set_option linter.unusedVariables false
open Go Cn Go.RowKit
theorem OwnF.row {W : World} {base : Nat} {v : Value} {xs : List Nat} (h : OwnF W base v xs) (hp : 0 < xs.length) : ∃ g cap cur, v = .slice (some ⟨g, 0, none⟩) xs.length cap ∧ base ≤ g ∧ W.heap[g]? = some (.cells cur 32 (0, 0)) ∧ xs.length ≤ cur.size := by
  rcases h.1.2 with ⟨-, h0⟩ | ⟨g, cap, cur, h1, h2, h3, h4, h5, h6, h7⟩
  · omega
  · exact ⟨g, cap, cur, h1, h2, h3, by omega⟩
theorem OwnF.set {W : World} {base g cap : Nat} {cur : Array Value} {xs : List Nat} {i y : Nat} (h : OwnF W base (.slice (some ⟨g, 0, none⟩) xs.length cap) xs) (hg : W.heap[g]? = some (.cells cur 32 (0, 0))) (hi : i < xs.length) (hy : cb .f32 y = y) :
    OwnF (W.setRow g (splice cur i [.float .f32 y])) base (.slice (some ⟨g, 0, none⟩) xs.length cap) (xs.set i y) := by
  obtain ⟨⟨h1, h2⟩, h3⟩ := h
  rcases h2 with ⟨e, -⟩ | ⟨g', cap', cur', e, a1, a2, a3, a4, a5, a6⟩
  · cases e
  · cases e
    rw [hg] at a2
    cases a2
    refine ⟨⟨by simp, .inr ⟨g, cap, splice cur i [.float .f32 y], by simp, a1, setRow_heap _ _ _ _ _ _ hg, by simpa using a3, a4, ?_, ?_⟩⟩, ?_⟩
    · have hs : (splice cur i [.float .f32 y]).size = cur.size := by
        unfold splice
        simp only [List.size_toArray, List.length_append, List.length_take, List.length_drop, Array.length_toList, List.length_singleton]
        omega
      rw [hs]; exact a5
    · apply List.ext_getElem?
      intro j
      by_cases hj : j < xs.length
      · rw [List.getElem?_take, if_pos (by simpa using hj), Array.getElem?_toList, splice_one (by omega)]
        have hcur : cur[j]? = some (.float .f32 (xs.getD j 0)) := by
          have : (cur.toList.take (xs.length * 1))[j]? = some (.float .f32 (xs.getD j 0)) := by
            rw [a6]; simp [List.getD_eq_getElem?_getD, hj]
          rw [List.getElem?_take, if_pos (by omega)] at this
          simpa using this
        by_cases e : j = i
        · subst e; rw [if_pos rfl]; simp [hi]
        · rw [if_neg e, hcur]; simp [show ¬ i = j from fun h => e h.symm, hj, List.getD_eq_getElem?_getD]
      · rw [List.getElem?_take, if_neg (by simpa using hj), List.getElem?_eq_none (by simpa using hj)]
    · intro j hj
      have hj' : j < xs.length := by simpa using hj
      by_cases e : i = j
      · subst e; simpa [List.getD_eq_getElem?_getD, List.getElem?_set, hj'] using hy
      · have := h3 j hj'
        simpa [List.getD_eq_getElem?_getD, List.getElem?_set, e, hj'] using this
theorem OwnF.lt {W : World} {base : Nat} {v : Value} {xs : List Nat} (h : OwnF W base v xs) : ∀ k, v.ownBlock = some k → base ≤ k ∧ k < W.heap.size := by
  rcases h.1.2 with ⟨rfl, -⟩ | ⟨g, cap, cur, rfl, hg, hh, -⟩
  · intro k hk; cases hk
  · intro k hk; cases hk
    refine ⟨hg, ?_⟩
    rcases Nat.lt_or_ge g W.heap.size with h | h
    · exact h
    · rw [Array.getElem?_eq_none h] at hh; cases hh
theorem OwnF.keep {W W' : World} {base : Nat} {v : Value} {xs : List Nat} (h : OwnF W base v xs) (hk : ∀ k, v.ownBlock = some k → W'.heap[k]? = W.heap[k]?) : OwnF W' base v xs := by
  obtain ⟨⟨h1, h2⟩, h3⟩ := h
  refine ⟨⟨h1, ?_⟩, h3⟩
  rcases h2 with h2 | ⟨g, cap, cur, hv, hg, hh, r⟩
  · exact .inl h2
  · refine .inr ⟨g, cap, cur, hv, hg, ?_, r⟩
    rw [hk g (by rw [hv]; rfl)]; exact hh
theorem OwnF.len {W : World} {base n c : Nat} {a : Option Addr} {xs : List Nat} (h : OwnF W base (.slice a n c) xs) : n = xs.length := by
  rcases h.1.2 with ⟨e, h0⟩ | ⟨g, cap, cur, e, -⟩
  · cases e; exact h0.symm
  · cases e; rfl
theorem OwnF.below {W W' : World} {base : Nat} {v : Value} {xs : List Nat} (h : OwnF W base v xs) (hb : Below W.heap.size W W') : OwnF W' base v xs := ⟨owns_below hb h.1, h.2⟩
section
variable {B : Nat} {W : World}
theorem co_toFloat32S {v : Value} {xs : List Nat} (hv : SlF W v xs) (hl : xs.length ≤ 1048576) (hB : B ≤ W.heap.size) :
    ACalls Try.prog B 8 [v] W (fun r W' => (∃ b, r = .slice (some ⟨b, 0, none⟩) xs.length xs.length) ∧ OwnF W' W.heap.size r xs ∧ Below W.heap.size W W') := by
  refine (c_laws_toFloat32S hv hl hB).mono fun r W' h => ?_
  obtain ⟨rfl, rfl⟩ := h
  refine ⟨⟨_, rfl⟩, ⟨⟨by simp, .inr ⟨W.heap.size, xs.length, fcells xs, rfl, Nat.le_refl _, heap_alloc_new W _, Nat.le_refl _, Nat.le_trans hl (by decide), by simp [fcells], by rw [show (fcells xs).toList = xs.map (Value.float .f32) by simp [fcells]]; exact List.take_of_length_le (by simp)⟩⟩, hv.canon⟩, (Below.refl _ _).alloc (Nat.le_refl _) _⟩
end
end Go.Proofs.Ytmplincflbhmiaa
namespace Go.Proofs.Ytmplincflbhmiaa
set_option linter.unusedSimpArgs false
set_option linter.unusedVariables false
open Go Cn Go.RowKit
theorem OwnF.same {W W' : World} {base b : Nat} {v : Value} {xs : List Nat} (h : OwnF W base v xs) (s : Same b W W') (hne : ∀ k, v.ownBlock = some k → k ≠ b) : OwnF W' base v xs := h.keep fun k hk => s.heap k (hne k hk)
theorem OwnF.cap {W : World} {base n c : Nat} {a : Option Addr} {xs : List Nat} (h : OwnF W base (.slice a n c) xs) : n ≤ c := by
  rcases h.1.2 with ⟨e, -⟩ | ⟨g, cap, cur, e, -, -, h4, -⟩
  · cases e; exact Nat.le_refl _
  · cases e; exact h4
/-- a record whose list the call owns -/
def RecO (W : World) (base : Nat) (v : Value) (s : ByteArray) (st sp : Int) (xs : List Nat) : Prop := ∃ a c, v = .agg #[.string s, .int .i64 st, .int .i64 sp, .slice a xs.length c] ∧ OwnF W base (.slice a xs.length c) xs
theorem RecO.below {W W' : World} {base : Nat} {v : Value} {s : ByteArray} {st sp : Int} {xs : List Nat} (h : RecO W base v s st sp xs) (hb : Below W.heap.size W W') : RecO W' base v s st sp xs := by
  obtain ⟨a, c, h1, h2⟩ := h
  exact ⟨a, c, h1, h2.below hb⟩
section
variable {B : Nat} {W : World}
end
/-! ### a list cut, and appended -/
theorem SlF.cut {W : World} {a : Option Addr} {n c l h : Nat} {xs : List Nat} (hv : SlF W (.slice a n c) xs) (h1 : l ≤ h) (h2 : h ≤ xs.length) (hc : n ≤ c) : ∃ a' c', sliced a l h c 1 = .slice a' (h - l) c' ∧ SlF W (.slice a' (h - l) c') ((xs.drop l).take (h - l)) ∧ h - l ≤ c' := by
  have hlen : ((xs.drop l).take (h - l)).length = h - l := by simp; omega
  rcases hv with ⟨e, rfl⟩ | ⟨b, off, c', e, hr⟩
  · cases e
    simp at h2
    subst h2
    have : l = 0 := by omega
    subst this
    exact ⟨none, 0, rfl, .inl ⟨rfl, by simp⟩, by omega⟩
  · cases e
    by_cases hcl : c = l
    · refine ⟨some ⟨b, off, none⟩, c - l, by simp [sliced, hcl], .inr ⟨b, off, c - l, by rw [hlen], fun i hi => ?_⟩, by omega⟩
      rw [hlen] at hi; omega
    · refine ⟨some ⟨b, off + l, none⟩, c - l, ?_, .inr ⟨b, off + l, c - l, by rw [hlen], fun i hi => ?_⟩, by omega⟩
      · simp only [sliced, if_neg hcl, Option.map_some, Nat.mul_one]
        congr 2
        unfold Addr.add
        split
        · simp_all
        · rfl
      · rw [hlen] at hi
        obtain ⟨y, h3, h4⟩ := hr (l + i) (by omega)
        refine ⟨y, by rw [Nat.add_assoc]; exact h3, ?_⟩
        rw [h4]
        simp [List.getD_eq_getElem?_getD, hi]
section app
variable {P : Program} {N B : Nat} {E : Env} {W : World} {ops : Array Oper} {K : Exit → Env → World → Prop} {D : World → Prop} {T : Tab} {i : Nat} {rest : List Nat} {d : Nat} {op : Op} {ty : TypeId} {pos : String} {aft : Array Edge} {g : Option (Nat × Bool)}
end app
section
variable {B : Nat} {W : World}
end
end Go.Proofs.Ytmplincflbhmiaa
namespace Go.Proofs.Ytmplincflbhmiaa
set_option linter.unusedSimpArgs false
set_option linter.unusedVariables false
open Go Cn Go.RowKit
abbrev fRow (v : Value) (xs : List Nat) : Res := .row 32 1 v xs.length (xs.map (.float .f32))
section
variable {B : Nat} {A W W' : World} {l l' : List Res}
theorem one_floats (xs : List Nat) : (xs.map (Value.float .f32)).all (·.oneCell') = true := by simp [Value.oneCell']
theorem can_floats {xs : List Nat} (h : CanF xs) : Canl (xs.map (Value.float .f32)) := by
  intro x hx
  obtain ⟨y, hy, rfl⟩ := List.mem_map.1 hx
  obtain ⟨i, hi, rfl⟩ := List.getElem_of_mem hy
  have := h i hi
  simp only [List.getD_eq_getElem?_getD, List.getElem?_eq_getElem hi, Option.getD_some] at this
  simp [cl, this]
theorem canF_of {xs : List Nat} (h : Canl (xs.map (Value.float .f32))) : CanF xs := by
  intro i hi
  have := h (.float .f32 (xs.getD i 0)) (List.mem_map.2 ⟨xs.getD i 0, by rw [List.getD_eq_getElem?_getD, List.getElem?_eq_getElem hi]; exact List.getElem_mem hi, rfl⟩)
  simpa [cl] using this
theorem hp_of_own {v : Value} {xs : List Nat} (hB : B ≤ W.heap.size) (hb : Below W.heap.size W W') (hu : OwnF W' W.heap.size v xs) : Hp B W W' [fRow v xs] :=
  (Hp.new hB).add hb ⟨ownsRow_base hu.1 fun _ _ => Nat.zero_le _, one_floats xs, can_floats hu.2⟩ fun b hk => hu.lt b hk
theorem Hp.ownF {v : Value} {n : Nat} {xs : List Nat} (H : Hp B A W l) (hm : Res.row 32 1 v n (xs.map (.float .f32)) ∈ l) : OwnF W A.heap.size v xs := by
  obtain ⟨h1, h2, h3⟩ := H.ok _ hm
  have hn : n = xs.length := by have := h1.1; simp at this; omega
  subst hn
  exact ⟨ownsRow_base h1 fun b hb => (H.own _ hm b hb).1, canF_of h3⟩
theorem Hp.slF {v : Value} {n : Nat} {xs : List Nat} (H : Hp B A W l) (hm : Res.row 32 1 v n (xs.map (.float .f32)) ∈ l) : SlF W v xs := (Hp.ownF H hm).sl
theorem Hp.slFA {v : Value} {xs : List Nat} (H : Hp B A W l) (hv : SlF A v xs) : SlF W v xs := hv.below H.below
end
/-! ### records -/
section
variable {B : Nat} {A W W' : World} {l l' : List Res}
end
end Go.Proofs.Ytmplincflbhmiaa
namespace Go.Proofs.Ytmplincflbhmiaa
set_option linter.unusedSimpArgs false
set_option linter.unusedVariables false
open Go Cn Go.RowKit
/-- mag * 2 ^ place is at most 2 ^ k -/
def Le2 (k : Int) (m : Nat) (e : Int) : Prop := m = 0 ∨ (e ≤ k ∧ m ≤ 2 ^ (k - e).toNat)
theorem Le2.up {k k' : Int} {m : Nat} {e : Int} (h : Le2 k m e) (hk : k ≤ k') : Le2 k' m e := by
  rcases h with h | ⟨h1, h2⟩
  · exact .inl h
  · exact .inr ⟨by omega, Nat.le_trans h2 (Nat.pow_le_pow_right (by decide) (by omega))⟩
/-- cutting digits: not above what is next above -/
theorem cut_le {neg : Bool} {n drop b : Nat} (h : n ≤ b * 2 ^ drop) : Ieee.Toward.even.cut neg n drop ≤ b := by
  unfold Ieee.Toward.cut
  dsimp only
  rw [Nat.one_shiftLeft]
  by_cases hd : drop ≤ n.log2 + 2
  · rw [Nat.min_eq_left hd]
    generalize 2 ^ drop = g at *
    by_cases hg : g = 0
    · subst hg
      have : n = 0 := by omega
      subst this
      simp
    have h1 : n / g ≤ b := by
      have := Nat.div_le_div_right (c := g) h
      rwa [Nat.mul_div_cancel _ (by omega)] at this
    by_cases h2 : n / g = b
    · have h3 : n / g * g ≤ n := Nat.div_mul_le_self n g
      rw [h2] at h3
      have h4 : n = b * g := by omega
      have h5 : n % g = 0 := by rw [h4]; exact Nat.mul_mod_left _ _
      rw [h2, h5]
      have : (decide (g < 2 * 0) || g == 2 * 0 && b % 2 == 1) = false := by simp; omega
      rw [this]
      simp
    · have : (decide (g < 2 * (n % g)) || g == 2 * (n % g) && n / g % 2 == 1).toNat ≤ 1 := Bool.toNat_le _
      omega
  · rw [Nat.min_eq_right (by omega)]
    have hn : n < 2 ^ (n.log2 + 1) := Nat.lt_log2_self
    have hg : 2 ^ (n.log2 + 2) = 2 * 2 ^ (n.log2 + 1) := by rw [show n.log2 + 2 = (n.log2 + 1) + 1 by omega, Nat.pow_succ]; omega
    generalize 2 ^ (n.log2 + 2) = g at *
    have h1 : n / g = 0 := Nat.div_eq_of_lt (by omega)
    have h2 : n % g = n := Nat.mod_eq_of_lt (by omega)
    rw [h1, h2]
    have : (decide (g < 2 * n) || g == 2 * n && 0 % 2 == 1) = false := by simp; omega
    rw [this]
    simp
end Go.Proofs.Ytmplincflbhmiaa
namespace Go.Proofs.Ytmplincflbhmiaa
set_option linter.unusedSimpArgs false
set_option linter.unusedVariables false
open Go Cn Go.RowKit
section
variable {P : Program} {N B : Nat} {W : World}
end
section
variable {P : Program} {N B : Nat} {E : Env} {W : World} {ops : Array Oper} {K : Exit → Env → World → Prop} {T : Tab} {o : Oper}
end
section
variable {B : Nat} {A W W' : World} {L L' : List Res}
end
end Go.Proofs.Ytmplincflbhmiaa
