/- A strings.Builder that the call has made, over canonical worlds. -/
import Derived.Test.YthdnepjajhjmlaaDoorVe
namespace Go.Proofs.YthdnepjajhjmlaaDoor
set_option linter.unusedSimpArgs false
set_option linter.unusedVariables false
open Go Cn Go.RowKit
section
variable {B n b : Nat} {W : World}
/-- a builder in block b, of the call's own (from n on), that holds a text -/
def Bdr (n b : Nat) (s : ByteArray) (W : World) : Prop := Lib.IsBuilder (Tryd.lays156_ren.t 72) (Tryd.lays156_ren.t 5) n b (Lib.byteCells s.data.toList) W
theorem bytes_back : ∀ {us : List Value} {l : List UInt8}, us.map cl = Lib.byteCells l → us = Lib.byteCells l
  | [], [], _ => rfl
  | [], _ :: _, h => by cases h
  | _ :: _, [], h => by cases h
  | u :: us, x :: l, h => by
    simp only [List.map_cons, Lib.byteCells, List.cons.injEq] at h ⊢
    refine ⟨?_, bytes_back h.2⟩
    have := h.1
    cases u <;> simp_all [cl]
theorem bytes_cl (l : List UInt8) : (Lib.byteCells l).map cl = Lib.byteCells l := by
  unfold Lib.byteCells
  rw [List.map_map]
  rfl
theorem at_raw {w : World} {T e : TypeId} {p : Option Addr} {l : List UInt8} (hn : B ≤ n) (h : Lib.BuilderAt T e n b (.pointer p) (Lib.byteCells l) (cw B w)) : Lib.BuilderAt T e n b (.pointer p) (Lib.byteCells l) w := by
  obtain ⟨hB, v, hb, hown, hne⟩ := h
  refine ⟨hB, v, ?_, ?_, hne⟩
  · obtain ⟨a, c, rfl⟩ : ∃ a c, v = .slice a (Lib.byteCells l).length c := by
      rcases hown.2 with ⟨rfl, h0⟩ | ⟨g, cap, cur, rfl, -⟩
      · exact ⟨none, 0, by rw [h0]⟩
      · exact ⟨_, _, rfl⟩
    rw [cw_heap] at hb
    cases ho : w.heap[b]? with
    | none => rw [ho] at hb; cases hb
    | some o =>
      rw [ho] at hb
      simp only [Option.map_some, Option.some.injEq] at hb
      rw [if_neg (by omega)] at hb
      cases o with
      | cells c' e' f' =>
        simp only [co, Obj.cells.injEq] at hb
        obtain ⟨h1, h2, h3⟩ := hb
        obtain ⟨c'⟩ := c'
        rw [List.map_toArray] at h1
        have h4 : c'.map cl = [.pointer p, .slice a (Lib.byteCells l).length c] := by simpa using h1
        match c', h4 with
        | [u1, u2], h4 =>
          simp only [List.map_cons, List.map_nil, List.cons.injEq, and_true] at h4
          have e1 : u1 = .pointer p := by have := h4.1; cases u1 <;> simp_all [cl]
          have e2 : u2 = .slice a (Lib.byteCells l).length c := by have := h4.2; cases u2 <;> simp_all [cl]
          rw [e1, e2, h2, h3]
        | [], h4 => cases h4
        | [_], h4 => simp at h4
        | _ :: _ :: _ :: _, h4 => simp at h4
      | _ => cases hb
  · obtain ⟨us, h1, h2⟩ := ownsRow_back rfl hn hown
    rw [bytes_back h2] at h1
    exact h1
theorem at_can {w : World} {T e : TypeId} {p : Option Addr} {l : List UInt8} (hn : B ≤ n) (h : Lib.BuilderAt T e n b (.pointer p) (Lib.byteCells l) w) : Lib.BuilderAt T e n b (.pointer p) (Lib.byteCells l) (cw B w) := by
  obtain ⟨hB, v, hb, hown, hne⟩ := h
  refine ⟨hB, v, ?_, ?_, hne⟩
  · obtain ⟨a, c, rfl⟩ : ∃ a c, v = .slice a (Lib.byteCells l).length c := by
      rcases hown.2 with ⟨rfl, h0⟩ | ⟨g, cap, cur, rfl, -⟩
      · exact ⟨none, 0, by rw [h0]⟩
      · exact ⟨_, _, rfl⟩
    rw [cw_heap, hb]
    simp only [Option.map_some]
    rw [if_neg (by omega)]
    simp [co, cl]
  · have := ownsRow_cw (B := B) hn hown
    rwa [bytes_cl] at this
theorem Bdr.raw {w : World} {s : ByteArray} (hn : B ≤ n) (h : Bdr n b s (cw B w)) : Bdr n b s w := h.elim (fun x => .inl (at_raw hn x)) (fun x => .inr (at_raw hn x))
theorem Bdr.can {w : World} {s : ByteArray} (hn : B ≤ n) (h : Bdr n b s w) : Bdr n b s (cw B w) := h.elim (fun x => .inl (at_can hn x)) (fun x => .inr (at_can hn x))
theorem Bdr.len {s : ByteArray} (_h : Bdr n b s W) : (Lib.byteCells s.data.toList).length = s.size := by
  rw [Lib.byteCells_length]; exact Array.length_toList
theorem bdr_app (s t : ByteArray) : Lib.byteCells s.data.toList ++ Lib.strCells t = Lib.byteCells (s ++ t).data.toList := by
  rw [ByteArray.data_append, Array.toList_append]
  unfold Lib.byteCells Lib.strCells
  rw [List.map_append]
theorem Bdr.grow {W' : World} {s : ByteArray} (h : Bdr n b s W) (hb : Below W.heap.size W W') : Bdr n b s W' := by
  have key : ∀ p, Lib.BuilderAt (Tryd.lays156_ren.t 72) (Tryd.lays156_ren.t 5) n b p (Lib.byteCells s.data.toList) W → Lib.BuilderAt (Tryd.lays156_ren.t 72) (Tryd.lays156_ren.t 5) n b p (Lib.byteCells s.data.toList) W' := by
    intro p h
    have hlt := h.lt
    obtain ⟨hB, v, hb', hown, hne⟩ := h
    exact ⟨hB, v, by rw [hb.block b hlt]; exact hb', owns_below hb hown, hne⟩
  exact h.elim (fun x => .inl (key _ x)) (fun x => .inr (key _ x))
theorem one1 {xs : Array Value} {p : Option Addr} (h : xs.toList.map cv = [.pointer p]) : xs = #[.pointer p] := by
  obtain ⟨l⟩ := xs
  match l, h with
  | [u], h =>
    simp only [List.map_cons, List.map_nil, List.cons.injEq, and_true] at h
    have : u = .pointer p := by cases u <;> simp_all [cv, c1, cl]
    rw [this]
  | [], h => cases h
  | _ :: _ :: _, h => simp at h
theorem two1 {xs : Array Value} {p : Option Addr} {t : ByteArray} (h : xs.toList.map cv = [.pointer p, .string t]) : xs = #[.pointer p, .string t] := by
  obtain ⟨l⟩ := xs
  match l, h with
  | [u, v], h =>
    simp only [List.map_cons, List.map_nil, List.cons.injEq, and_true] at h
    have : u = .pointer p := by have := h.1; cases u <;> simp_all [cv, c1, cl]
    rw [this, cv_string h.2]
  | [], h => cases h
  | [_], h => simp at h
  | _ :: _ :: _ :: _, h => simp at h
theorem c_BLen {s : ByteArray} (hn : B ≤ n) (h : Bdr n b s W) :
    ACalls Tryd.prog B 54 [.pointer (some ⟨b, 0, none⟩)] W (fun r W' => r = .int .i64 s.size ∧ W' = W) := by
  refine acalls_intro fun xs w h1 h2 h3 => ?_
  subst h2
  rw [one1 h1]
  refine (Tryd.Builder_Len n b _ w (h.raw hn)).mono fun e w' ⟨he, hw⟩ => ?_
  subst hw
  refine ⟨_, he, h3, ?_, rfl⟩
  rw [h.len]; rfl
theorem c_BWrite {s t : ByteArray} (hn : B ≤ n) (hW : n ≤ W.heap.size) (h : Bdr n b s W) (hl : s.size + t.size ≤ 1000000000) :
    ACalls Tryd.prog B 56 [.pointer (some ⟨b, 0, none⟩), .string t] W (fun r W' => r = .tuple #[.int .i64 t.size, .nilIface] ∧ Bdr n b (s ++ t) W' ∧ Below n W W') := by
  refine acalls_intro fun xs w h1 h2 h3 => ?_
  subst h2
  rw [two1 h1]
  have hlen := h.len
  refine (Any.Builder_WriteString { Tryd.lays156 with } Tryd.Builder_Extra_156 n b _ t w (h.raw hn) (by omega) (by simpa using hW)).mono fun e w' ⟨he, hb, hw⟩ => ?_
  refine ⟨_, he, Nat.le_trans h3 hw.size, ?_, ?_, Below.cwB hw⟩
  · simp [cv, c1, cl]
  · rw [bdr_app] at hb
    exact Bdr.can hn (.inr hb)
theorem c_BString {s : ByteArray} (hn : B ≤ n) (hW : n ≤ W.heap.size) (h : Bdr n b s W) :
    ACalls Tryd.prog B 58 [.pointer (some ⟨b, 0, none⟩)] W (fun r W' => r = .string s ∧ Below n W W') := by
  refine acalls_intro fun xs w h1 h2 h3 => ?_
  subst h2
  rw [one1 h1]
  refine (Tryd.Builder_String_any n b _ w (h.raw hn) (by simpa using hW)).mono fun e w' ⟨he, hw⟩ => ?_
  exact ⟨_, he, Nat.le_trans h3 hw.size, rfl, Below.cwB hw⟩
end
end Go.Proofs.YthdnepjajhjmlaaDoor
