/- Rows of the call's own, whatever they hold; bytes made a text. -/
import Derived.Test.YtmplincflbhmiaaHr
import Derived.Laws.BytesArg
namespace Go.Proofs.Ytmplincflbhmiaa
set_option linter.unusedSimpArgs false
set_option linter.unusedVariables false
open Go Cn Go.RowKit
theorem owns_alloc {W : World} {base : Nat} {e : TypeId} {size n : Nat} {v : Value} {xs : List Value} (o : Obj) (h : W.ownsRow base e size v n xs) : (W.alloc o).ownsRow base e size v n xs := by
  obtain ⟨h1, h2⟩ := h
  refine ⟨h1, ?_⟩
  rcases h2 with h2 | ⟨g, cap, cur, hv, hg, hh, r⟩
  · exact .inl h2
  · refine .inr ⟨g, cap, cur, hv, hg, ?_, r⟩
    rw [Below.heap_alloc W o g (by
      rcases Nat.lt_or_ge g W.heap.size with h | h
      · exact h
      · rw [Array.getElem?_eq_none h] at hh; cases hh)]
    exact hh
theorem owns_below {W W' : World} {base : Nat} {e : TypeId} {size n : Nat} {v : Value} {xs : List Value} (hb : Below W.heap.size W W') (h : W.ownsRow base e size v n xs) : W'.ownsRow base e size v n xs := by
  obtain ⟨h1, h2⟩ := h
  refine ⟨h1, ?_⟩
  rcases h2 with h2 | ⟨g, cap, cur, hv, hg, hh, r⟩
  · exact .inl h2
  · refine .inr ⟨g, cap, cur, hv, hg, ?_, r⟩
    rw [hb.block g (by
      rcases Nat.lt_or_ge g W.heap.size with h | h
      · exact h
      · rw [Array.getElem?_eq_none h] at hh; cases hh)]
    exact hh
theorem own_lt {W : World} {base : Nat} {e : TypeId} {size n : Nat} {v : Value} {xs : List Value} (h : W.ownsRow base e size v n xs) : ∀ k, v.ownBlock = some k → base ≤ k := by
  rcases h.2 with ⟨rfl, -⟩ | ⟨g, cap, cur, rfl, hg, -⟩
  · intro k hk; cases hk
  · intro k hk; cases hk; exact hg
theorem cells_new {W : World} {vs : List Value} {e : TypeId} : Cells (W.alloc (.cells vs.toArray e)) W.heap.size 0 vs := by
  intro j u hj
  simp only [World.cell?, heap_alloc_new]
  simpa using hj
/-! ### rows of the call's own, whatever they hold -/
def OwnV (W : World) (base : Nat) (e : TypeId) (v : Value) (xs : List Value) : Prop := W.ownsRow base e 1 v xs.length xs
theorem OwnV.form {W : World} {base : Nat} {e : TypeId} {v : Value} {xs : List Value} (h : OwnV W base e v xs) : ∃ a c, v = .slice a xs.length c := by
  rcases h.2 with ⟨rfl, h0⟩ | ⟨g, cap, cur, rfl, -⟩
  · exact ⟨none, 0, by rw [h0]⟩
  · exact ⟨_, _, rfl⟩
theorem OwnV.new {W : World} {base : Nat} {e : TypeId} (h : base ≤ W.heap.size) : OwnV (W.alloc (.cells #[] e)) base e (.slice (some ⟨W.heap.size, 0, none⟩) 0 0) [] :=
  ⟨rfl, .inr ⟨W.heap.size, 0, #[], rfl, h, heap_alloc_new W _, by simp, by decide, rfl, rfl⟩⟩
theorem OwnV.cells {W : World} {base b off n c : Nat} {e : TypeId} {xs : List Value} {sp : Option Nat} (h : OwnV W base e (.slice (some ⟨b, off, sp⟩) n c) xs) : off = 0 ∧ sp = none ∧ base ≤ b ∧ n = xs.length ∧ ∀ i, i < xs.length → W.cell? ⟨b, i, none⟩ = some (xs.getD i undef) := by
  rcases h.2 with ⟨h1, -⟩ | ⟨g, cap, cur, h1, hg, hh, -, -, -, hx⟩
  · cases h1
  · cases h1
    refine ⟨rfl, rfl, hg, rfl, fun i hi => ?_⟩
    have : (cur.toList.take (xs.length * 1))[i]? = some (xs.getD i undef) := by
      rw [hx]; simp [List.getD_eq_getElem?_getD, hi]
    rw [List.getElem?_take, if_pos (by omega)] at this
    simp only [World.cell?, hh]
    simpa using this
section push
variable {P : Program} {N B : Nat} {E : Env} {W : World} {ops : Array Oper} {K : Exit → Env → World → Prop} {D : World → Prop} {T : Tab} {i : Nat} {rest : List Nat} {d : Nat} {op : Op} {ty : TypeId} {pos : String} {aft : Array Edge} {g : Option (Nat × Bool)}
theorem yields_push (hT : TabOk P T) {o : Oper} {base : Nat} {e : TypeId} {v u : Value} {xs : List Value} {tt : TT} (hv : evAp T E o = some (e, v, .slice (some ⟨W.heap.size, 0, none⟩) 1 1)) (ht : T.at e = some tt) (h1 : Nat.beq tt.size 1 = true) (hz : tt.zero.cells.size = tt.size) (h16 : Nat.ble tt.bytes 64 = true)
    (hc : u.cells = #[u]) (h1c : u.oneCell' = true) (hu : OwnV W base e v xs) (hB : B ≤ base) (hb : base ≤ W.heap.size) (hl : xs.length ≤ 1099511627775) :
    Go.Proofs.Ytmplincflbhmiaa.Cn.Yields P N B o E (W.alloc (.cells (cellsAll [u]) e)) (fun v' W' => OwnV W' base e v' (xs ++ [cl u]) ∧ Below base W W') := by
  intro a w ha hw hB'
  have hs : tt.size = 1 := Nat.eq_of_beq_eq_true h1
  have hbt := Nat.le_of_ble_eq_true h16
  have hca : cellsAll [u] = [u].toArray := by simp [cellsAll, hc]
  rw [hca] at hw
  have hm : (xs.length + 1) * tt.bytes ≤ 1099511627776 * 64 := Nat.mul_le_mul (by omega) hbt
  have hu' : (W.alloc (.cells [u].toArray e)).ownsRow base e tt.size v xs.length xs := by rw [hs]; exact owns_alloc _ hu
  have hy := yields_append (P := P) (N := N) (B := B) (E := E) (W := W.alloc (.cells [u].toArray e)) hT hv ht hu' hB (by simp; omega) (cells_new (W := W) (vs := [u])) (by rw [hs]; rfl) (by simp [h1c]) hz (by omega) (by show xs.length + 1 ≤ 9223372036854775807; omega) (by omega)
  obtain ⟨r, w', h2, h3, h4⟩ := hy a w ha hw hB'
  refine ⟨r, w', h2, h3, ?_, ((Below.refl base W).alloc hb _).grown h4.2.1 (by simp; omega) (own_lt hu)⟩
  have := h4.1
  rw [hs] at this
  simpa [OwnV] using this
theorem s_push (hT : TabOk P T) {base : Nat} {e : TypeId} {v u : Value} {xs : List Value} {tt : TT} (ho : getL ops.toList i = some ⟨some d, op, ty, pos, aft, g⟩) (hg : guardE ops ⟨some d, op, ty, pos, aft, g⟩ E = some true) (hd : Nat.ble (d + 1) N = true)
    (hv : evAp T E ⟨some d, op, ty, pos, aft, g⟩ = some (e, v, .slice (some ⟨W.heap.size, 0, none⟩) 1 1)) (ht : T.at e = some tt) (h1 : Nat.beq tt.size 1 = true) (hz : tt.zero.cells.size = tt.size) (h16 : Nat.ble tt.bytes 64 = true)
    (hc : u.cells = #[u]) (h1c : u.oneCell' = true) (hu : OwnV W base e v xs) (hB : B ≤ base) (hb : base ≤ W.heap.size) (hl : xs.length ≤ 1099511627775)
    (k : ∀ v' W', OwnV W' base e v' (xs ++ [cl u]) → Below base W W' → AOps P N B ops rest K ((d, v') :: E) W') : AOps P N B ops (i :: rest) K E (W.alloc (.cells (cellsAll [u]) e)) :=
  aops_yields (getL_ok ho) hg hd (yields_push hT hv ht h1 hz h16 hc h1c hu hB hb hl) (fun v' W' hR => k v' W' hR.1 hR.2)
/-- bytes made a string -/
def evBc (T : Tab) (E : Env) (o : Oper) : Option Value :=
  match o.op with
  | .convert src dst x => match T.at src with
    | some ⟨.slice e, _, _, _⟩ => match T.at e with
      | some ⟨.int .u8, _, _, _⟩ => match T.at dst with
        | some ⟨.string, _, _, _⟩ => match ev E x with
          | some (.slice a n c) => some (.slice a n c)
          | _ => none
        | _ => none
      | _ => none
    | _ => none
  | _ => none
theorem gives_bytesString (hT : TabOk P T) {o : Oper} {base : Nat} {e : TypeId} {v : Value} {xs : List Int} (hv : evBc T E o = some v) (hu : OwnV W base e v (xs.map (.int .u8))) : Gives P N B o E W (.string (strOfNums xs)) W := by
  refine gives_of fun a w ha hw hB => ?_
  unfold evBc at hv
  split at hv
  · rename_i src dst x hop
    split at hv
    · rename_i e' s1 b1 z1 ht1
      split at hv
      · rename_i s2 b2 z2 ht2
        split at hv
        · rename_i s3 b3 z3 ht3
          split at hv
          · rename_i ad n c hx
            cases hv
            have e1 := cv_slice (ev_sound ha hx)
            have hs := (hT _ _ ht1).1
            have he := (hT _ _ ht2).1
            have hd := (hT _ _ ht3).1
            refine ⟨.string (strOfNums xs), w, ?_, rfl, rfl⟩
            simp only [execOp, hop, e1]
            refine run_v ?_
            cases ad with
            | none =>
              have : xs = [] := by
                rcases hu.2 with ⟨-, h0⟩ | ⟨g, cap, cur, h1, -⟩
                · simpa using h0
                · cases h1
              subst this
              exact run_convert_bytes_nil w src _ hs he n c dst hd
            | some ad =>
              obtain ⟨b, off, sp⟩ := ad
              obtain ⟨rfl, rfl, -, hn, hcell⟩ := hu.cells
              simp only [List.length_map] at hn hcell
              refine run_convert_bytes_arg w src _ hs he b 0 n c xs hn.symm (fun i hi => ?_) dst hd
              have h2 := hcell i (by omega)
              obtain ⟨y, h3, h4⟩ := cell_back hw h2
              rw [Nat.zero_add, h3]
              have h5 : (List.map (Value.int .u8) xs).getD i undef = .int .u8 (xs.getD i 0) := by
                simp [List.getD_eq_getElem?_getD, show i < xs.length by omega]
              rw [h5] at h4
              cases y <;> simp_all [cl]
          · cases hv
        · cases hv
      · cases hv
    · cases hv
  · cases hv
theorem s_bytesString (hT : TabOk P T) {base : Nat} {e : TypeId} {v : Value} {xs : List Int} (ho : getL ops.toList i = some ⟨some d, op, ty, pos, aft, g⟩) (hg : guardE ops ⟨some d, op, ty, pos, aft, g⟩ E = some true) (hd : Nat.ble (d + 1) N = true)
    (hv : evBc T E ⟨some d, op, ty, pos, aft, g⟩ = some v) (hu : OwnV W base e v (xs.map (.int .u8))) (k : AOps P N B ops rest K ((d, .string (strOfNums xs)) :: E) W) : AOps P N B ops (i :: rest) K E W :=
  aops_gives (getL_ok ho) hg hd (gives_bytesString hT hv hu) k
end push
abbrev u8s (xs : List Int) : List Value := xs.map (.int .u8)
theorem Hp.ownB {B : Nat} {A W : World} {l : List Res} {v : Value} {n : Nat} {xs : List Int} (H : Hp B A W l) (hm : Res.row 5 1 v n (u8s xs) ∈ l) : OwnV W A.heap.size 5 v (u8s xs) := by
  have hn : (u8s xs).length = n := by have := H.row_len hm; omega
  subst hn
  exact ownsRow_base (H.ok _ hm).1 fun b hb => (H.own _ hm b hb).1
end Go.Proofs.Ytmplincflbhmiaa
