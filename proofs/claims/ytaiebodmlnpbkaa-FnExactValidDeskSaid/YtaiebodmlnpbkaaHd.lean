/- Rows of 32-bit floats and records, over a heap told by its parts. -/
import Derived.Test.YtaiebodmlnpbkaaHc
import Derived.Test.YtaiebodmlnpbkaaFm
namespace Go.Proofs.Ytaiebodmlnpbkaa
set_option linter.unusedSimpArgs false
set_option linter.unusedVariables false
open Go Cn Go.RowKit
abbrev fRow (v : Value) (xs : List Nat) : Res := .row 33 1 v xs.length (xs.map (.float .f32))
section
variable {B : Nat} {A W W' : World} {l l' : List Res}
theorem one_floats (xs : List Nat) : (xs.map (Value.float .f32)).all (·.oneCell') = true := by simp [Value.oneCell']
theorem can_floats {xs : List Nat} (h : CanF xs) : Canl (xs.map (Value.float .f32)) := by
  intro x hx
  obtain ⟨y, hy, rfl⟩ := List.mem_map.1 hx
  obtain ⟨i, hi, rfl⟩ := List.getElem_of_mem hy
  have := h i hi
  simp only [List.getD_eq_getElem?_getD, List.getElem?_eq_getElem hi, Option.getD_some] at this
  simp [cl, this]
theorem canF_of {xs : List Nat} (h : Canl (xs.map (Value.float .f32))) : CanF xs := by
  intro i hi
  have := h (.float .f32 (xs.getD i 0)) (List.mem_map.2 ⟨xs.getD i 0, by rw [List.getD_eq_getElem?_getD, List.getElem?_eq_getElem hi]; exact List.getElem_mem hi, rfl⟩)
  simpa [cl] using this
theorem hp_of_own {v : Value} {xs : List Nat} (hB : B ≤ W.heap.size) (hb : Below W.heap.size W W') (hu : OwnF W' W.heap.size v xs) : Hp B W W' [fRow v xs] :=
  (Hp.new hB).add hb ⟨ownsRow_base hu.1 fun _ _ => Nat.zero_le _, one_floats xs, can_floats hu.2⟩ fun b hk => hu.lt b hk
theorem Hp.ownF {v : Value} {n : Nat} {xs : List Nat} (H : Hp B A W l) (hm : Res.row 33 1 v n (xs.map (.float .f32)) ∈ l) : OwnF W A.heap.size v xs := by
  obtain ⟨h1, h2, h3⟩ := H.ok _ hm
  have hn : n = xs.length := by have := h1.1; simp at this; omega
  subst hn
  exact ⟨ownsRow_base h1 fun b hb => (H.own _ hm b hb).1, canF_of h3⟩
theorem Hp.slF {v : Value} {n : Nat} {xs : List Nat} (H : Hp B A W l) (hm : Res.row 33 1 v n (xs.map (.float .f32)) ∈ l) : SlF W v xs := (Hp.ownF H hm).sl
theorem Hp.slFA {v : Value} {xs : List Nat} (H : Hp B A W l) (hv : SlF A v xs) : SlF W v xs := hv.below H.below
theorem SlF.slV {a : Option Addr} {c : Nat} {xs : List Nat} (h : SlF W (.slice a xs.length c) xs) (hc : xs.length ≤ c) : SlV W 1 (.slice a xs.length c) xs.length (xs.map (.float .f32)) := by
  refine ⟨by simp, ?_⟩
  rcases h with ⟨h1, rfl⟩ | ⟨b, off, c', h1, h2⟩
  · exact .inl ⟨rfl, .inl h1⟩
  · cases h1
    refine .inr ⟨b, off, c, rfl, hc, fun i hi => ?_⟩
    obtain ⟨y, h3, h4⟩ := h2 i (by simpa using hi)
    refine ⟨_, h3, ?_, rfl⟩
    have hi' : i < xs.length := by simpa using hi
    simp only [cl, h4]
    simp [List.getD_eq_getElem?_getD, hi']
theorem own_of_block {base b n c : Nat} {e : TypeId} {sz : Nat} {sp : Option Nat} {off : Nat} {xs : List Value} (h : W.ownsRow base e sz (.slice (some ⟨b, off, sp⟩) n c) n xs) : off = 0 ∧ sp = none := ⟨(ownsRow_cells h).1, (ownsRow_cells h).2.1⟩
/-- marks, wherever the row lies -/
theorem hc_markFloat32S {v : Value} {nn : Nat} {xs : List Nat} {n : Int} (H : Hp B A W l) (hU : Upd l (.row 33 1 v nn (xs.map (.float .f32))) (.row 33 1 v nn ((markTo n xs xs.length).map (.float .f32))) l') (hl : xs.length ≤ 1048576) (h0 : 0 ≤ n) (h1 : n ≤ 1099511627776) :
    ACalls Try.prog B 16 [v, .int .i64 n] W (fun r W' => r = .int .i64 (n + xs.length) ∧ Hp B A W' l') := by
  have hm := hU.mem
  have hu := Hp.ownF H hm
  have hnn : nn = xs.length := by have := H.row_len hm; simp at this; omega
  refine (c_laws_markFloat32S hu H.hB hl h0 h1).mono fun r W' h => ?_
  obtain ⟨rfl, h2, h3, h4, h5⟩ := h
  refine ⟨rfl, H.upd hU (by rw [h5]; exact Nat.le_refl _) ?_ ?_ ?_ (fun k _ hk => h4 k hk) ⟨ownsRow_base (by rw [hnn]; have := h2.1; rwa [markTo_len] at this) fun _ _ => Nat.zero_le _, one_floats _, can_floats h2.2⟩ (fun k hk => .inl hk)⟩
  · exact h3.os
  · exact h3.tape
  · exact h3.output
theorem hc_heldFloat32S {v : Value} {nn : Nat} {xs : List Nat} {n : Int} (H : Hp B A W l) (hm : Res.row 33 1 v nn ((markTo n xs xs.length).map (.float .f32)) ∈ l) (hl : xs.length ≤ 1048576) (h0 : 0 ≤ n) (h1 : n ≤ 1099511627776) :
    ACalls Try.prog B 18 [v, .int .i64 n] W (fun r W' => r = .int .i64 (n + xs.length) ∧ W' = W) := by
  have h := c_laws_heldFloat32S (B := B) (Hp.slF H hm) (by rw [markTo_len]; exact hl) h0 h1 (fun j hj => markTo_at n xs xs.length j (Nat.le_refl _) (by rw [markTo_len] at hj; exact hj))
  rw [markTo_len] at h
  exact h
end
/-! ### records -/
def recV (s : ByteArray) (st sp : Int) (v : Value) : Value := .agg #[.string s, .int .i64 st, .int .i64 sp, v]
section
variable {B : Nat} {A W W' : World} {l l' : List Res}
end
end Go.Proofs.Ytaiebodmlnpbkaa
