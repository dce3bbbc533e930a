/- Records packed as bytes: differences of words, each in as few bytes as it takes. -/
import Derived.Test.YtaiebodmlnpbkaaFg
import Derived.Laws.BytesArg
namespace Go.Proofs.Ytaiebodmlnpbkaa
set_option linter.unusedSimpArgs false
set_option linter.unusedVariables false
open Go Cn Go.RowKit
/-! ### rows of the call's own, whatever they hold -/
def OwnV (W : World) (base : Nat) (e : TypeId) (v : Value) (xs : List Value) : Prop := W.ownsRow base e 1 v xs.length xs
theorem OwnV.form {W : World} {base : Nat} {e : TypeId} {v : Value} {xs : List Value} (h : OwnV W base e v xs) : ∃ a c, v = .slice a xs.length c := by
  rcases h.2 with ⟨rfl, h0⟩ | ⟨g, cap, cur, rfl, -⟩
  · exact ⟨none, 0, by rw [h0]⟩
  · exact ⟨_, _, rfl⟩
theorem OwnV.new {W : World} {base : Nat} {e : TypeId} (h : base ≤ W.heap.size) : OwnV (W.alloc (.cells #[] e)) base e (.slice (some ⟨W.heap.size, 0, none⟩) 0 0) [] :=
  ⟨rfl, .inr ⟨W.heap.size, 0, #[], rfl, h, heap_alloc_new W _, by simp, by decide, rfl, rfl⟩⟩
theorem OwnV.cells {W : World} {base b off n c : Nat} {e : TypeId} {xs : List Value} {sp : Option Nat} (h : OwnV W base e (.slice (some ⟨b, off, sp⟩) n c) xs) : off = 0 ∧ sp = none ∧ base ≤ b ∧ n = xs.length ∧ ∀ i, i < xs.length → W.cell? ⟨b, i, none⟩ = some (xs.getD i undef) := by
  rcases h.2 with ⟨h1, -⟩ | ⟨g, cap, cur, h1, hg, hh, -, -, -, hx⟩
  · cases h1
  · cases h1
    refine ⟨rfl, rfl, hg, rfl, fun i hi => ?_⟩
    have : (cur.toList.take (xs.length * 1))[i]? = some (xs.getD i undef) := by
      rw [hx]; simp [List.getD_eq_getElem?_getD, hi]
    rw [List.getElem?_take, if_pos (by omega)] at this
    simp only [World.cell?, hh]
    simpa using this
section push
variable {P : Program} {N B : Nat} {E : Env} {W : World} {ops : Array Oper} {K : Exit → Env → World → Prop} {D : World → Prop} {T : Tab} {i : Nat} {rest : List Nat} {d : Nat} {op : Op} {ty : TypeId} {pos : String} {aft : Array Edge} {g : Option (Nat × Bool)}
theorem yields_push (hT : TabOk P T) {o : Oper} {base : Nat} {e : TypeId} {v u : Value} {xs : List Value} {tt : TT} (hv : evAp T E o = some (e, v, .slice (some ⟨W.heap.size, 0, none⟩) 1 1)) (ht : T.at e = some tt) (h1 : Nat.beq tt.size 1 = true) (hz : tt.zero.cells.size = tt.size) (h16 : Nat.ble tt.bytes 64 = true)
    (hc : u.cells = #[u]) (h1c : u.oneCell' = true) (hu : OwnV W base e v xs) (hB : B ≤ base) (hb : base ≤ W.heap.size) (hl : xs.length ≤ 1099511627775) :
    Go.Proofs.Ytaiebodmlnpbkaa.Cn.Yields P N B o E (W.alloc (.cells (cellsAll [u]) e)) (fun v' W' => OwnV W' base e v' (xs ++ [cl u]) ∧ Below base W W') := by
  intro a w ha hw hB'
  have hs : tt.size = 1 := Nat.eq_of_beq_eq_true h1
  have hbt := Nat.le_of_ble_eq_true h16
  have hca : cellsAll [u] = [u].toArray := by simp [cellsAll, hc]
  rw [hca] at hw
  have hm : (xs.length + 1) * tt.bytes ≤ 1099511627776 * 64 := Nat.mul_le_mul (by omega) hbt
  have hu' : (W.alloc (.cells [u].toArray e)).ownsRow base e tt.size v xs.length xs := by rw [hs]; exact owns_alloc _ hu
  have hy := yields_append (P := P) (N := N) (B := B) (E := E) (W := W.alloc (.cells [u].toArray e)) hT hv ht hu' hB (by simp; omega) (cells_new (W := W) (vs := [u])) (by rw [hs]; rfl) (by simp [h1c]) hz (by omega) (by show xs.length + 1 ≤ 9223372036854775807; omega) (by omega)
  obtain ⟨r, w', h2, h3, h4⟩ := hy a w ha hw hB'
  refine ⟨r, w', h2, h3, ?_, ((Below.refl base W).alloc hb _).grown h4.2.1 (by simp; omega) (own_lt hu)⟩
  have := h4.1
  rw [hs] at this
  simpa [OwnV] using this
theorem s_push (hT : TabOk P T) {base : Nat} {e : TypeId} {v u : Value} {xs : List Value} {tt : TT} (ho : getL ops.toList i = some ⟨some d, op, ty, pos, aft, g⟩) (hg : guardE ops ⟨some d, op, ty, pos, aft, g⟩ E = some true) (hd : Nat.ble (d + 1) N = true)
    (hv : evAp T E ⟨some d, op, ty, pos, aft, g⟩ = some (e, v, .slice (some ⟨W.heap.size, 0, none⟩) 1 1)) (ht : T.at e = some tt) (h1 : Nat.beq tt.size 1 = true) (hz : tt.zero.cells.size = tt.size) (h16 : Nat.ble tt.bytes 64 = true)
    (hc : u.cells = #[u]) (h1c : u.oneCell' = true) (hu : OwnV W base e v xs) (hB : B ≤ base) (hb : base ≤ W.heap.size) (hl : xs.length ≤ 1099511627775)
    (k : ∀ v' W', OwnV W' base e v' (xs ++ [cl u]) → Below base W W' → AOps P N B ops rest K ((d, v') :: E) W') : AOps P N B ops (i :: rest) K E (W.alloc (.cells (cellsAll [u]) e)) :=
  aops_yields (getL_ok ho) hg hd (yields_push hT hv ht h1 hz h16 hc h1c hu hB hb hl) (fun v' W' hR => k v' W' hR.1 hR.2)
theorem d_push (hT : TabOk P T) {base : Nat} {e : TypeId} {v u : Value} {xs : List Value} {tt : TT} (ho : getL ops.toList i = some ⟨some d, op, ty, pos, aft, g⟩) (hg : guardE ops ⟨some d, op, ty, pos, aft, g⟩ E = some true) (hd : Nat.ble (d + 1) N = true)
    (hv : evAp T E ⟨some d, op, ty, pos, aft, g⟩ = some (e, v, .slice (some ⟨W.heap.size, 0, none⟩) 1 1)) (ht : T.at e = some tt) (h1 : Nat.beq tt.size 1 = true) (hz : tt.zero.cells.size = tt.size) (h16 : Nat.ble tt.bytes 64 = true) (hm : only ops i rest = true)
    (hc : u.cells = #[u]) (h1c : u.oneCell' = true) (hu : OwnV W base e v xs) (hB : B ≤ base) (hb : base ≤ W.heap.size) (hl : xs.length ≤ 1099511627775)
    (k : ∀ v' W', OwnV W' base e v' (xs ++ [cl u]) → Below base W W' → D W' ∧ SD P N B ops D K rest ((d, v') :: E) W') : SD P N B ops D K (i :: rest) E (W.alloc (.cells (cellsAll [u]) e)) :=
  d_yields ho hg hd hm (yields_push hT hv ht h1 hz h16 hc h1c hu hB hb hl) (fun v' W' hR => k v' W' hR.1 hR.2)
/-- bytes made a string -/
def evBc (T : Tab) (E : Env) (o : Oper) : Option Value :=
  match o.op with
  | .convert src dst x => match T.at src with
    | some ⟨.slice e, _, _, _⟩ => match T.at e with
      | some ⟨.int .u8, _, _, _⟩ => match T.at dst with
        | some ⟨.string, _, _, _⟩ => match ev E x with
          | some (.slice a n c) => some (.slice a n c)
          | _ => none
        | _ => none
      | _ => none
    | _ => none
  | _ => none
theorem gives_bytesString (hT : TabOk P T) {o : Oper} {base : Nat} {e : TypeId} {v : Value} {xs : List Int} (hv : evBc T E o = some v) (hu : OwnV W base e v (xs.map (.int .u8))) : Gives P N B o E W (.string (strOfNums xs)) W := by
  refine gives_of fun a w ha hw hB => ?_
  unfold evBc at hv
  split at hv
  · rename_i src dst x hop
    split at hv
    · rename_i e' s1 b1 z1 ht1
      split at hv
      · rename_i s2 b2 z2 ht2
        split at hv
        · rename_i s3 b3 z3 ht3
          split at hv
          · rename_i ad n c hx
            cases hv
            have e1 := cv_slice (ev_sound ha hx)
            have hs := (hT _ _ ht1).1
            have he := (hT _ _ ht2).1
            have hd := (hT _ _ ht3).1
            refine ⟨.string (strOfNums xs), w, ?_, rfl, rfl⟩
            simp only [execOp, hop, e1]
            refine run_v ?_
            cases ad with
            | none =>
              have : xs = [] := by
                rcases hu.2 with ⟨-, h0⟩ | ⟨g, cap, cur, h1, -⟩
                · simpa using h0
                · cases h1
              subst this
              exact run_convert_bytes_nil w src _ hs he n c dst hd
            | some ad =>
              obtain ⟨b, off, sp⟩ := ad
              obtain ⟨rfl, rfl, -, hn, hcell⟩ := hu.cells
              simp only [List.length_map] at hn hcell
              refine run_convert_bytes_arg w src _ hs he b 0 n c xs hn.symm (fun i hi => ?_) dst hd
              have h2 := hcell i (by omega)
              obtain ⟨y, h3, h4⟩ := cell_back hw h2
              rw [Nat.zero_add, h3]
              have h5 : (List.map (Value.int .u8) xs).getD i undef = .int .u8 (xs.getD i 0) := by
                simp [List.getD_eq_getElem?_getD, show i < xs.length by omega]
              rw [h5] at h4
              cases y <;> simp_all [cl]
          · cases hv
        · cases hv
      · cases hv
    · cases hv
  · cases hv
theorem s_bytesString (hT : TabOk P T) {base : Nat} {e : TypeId} {v : Value} {xs : List Int} (ho : getL ops.toList i = some ⟨some d, op, ty, pos, aft, g⟩) (hg : guardE ops ⟨some d, op, ty, pos, aft, g⟩ E = some true) (hd : Nat.ble (d + 1) N = true)
    (hv : evBc T E ⟨some d, op, ty, pos, aft, g⟩ = some v) (hu : OwnV W base e v (xs.map (.int .u8))) (k : AOps P N B ops rest K ((d, .string (strOfNums xs)) :: E) W) : AOps P N B ops (i :: rest) K E W :=
  aops_gives (getL_ok ho) hg hd (gives_bytesString hT hv hu) k
end push
/-! ### numbers -/
theorem and32 (x : Int) : bits .and .i64 x 4294967295 = x % 4294967296 := by
  have h2 : bits .and .i64 x 4294967295 = IntKind.i64.wrap (((BitVec.ofInt 64 x &&& BitVec.ofInt 64 4294967295).toNat : Nat) : Int) := rfl
  rw [h2]
  have h1 : (BitVec.ofInt 64 x &&& BitVec.ofInt 64 4294967295).toNat = (x % 4294967296).toNat := by
    rw [BitVec.toNat_and, BitVec.toNat_ofInt, BitVec.toNat_ofInt]
    have : ((4294967295 : Int) % ((2 ^ 64 : Nat) : Int)).toNat = 2 ^ 32 - 1 := by decide
    rw [this, Nat.and_two_pow_sub_one_eq_mod]
    omega
  rw [h1]
  rw [wrap_inR (by simp only [InR]; omega)]
  omega
@[irreducible] def wordOf (x : Nat) : Int := if fcmp .neq .f32 x x then 2143289344 else x
theorem wordOf_range {x : Nat} (h : x < 4294967296) : 0 ≤ wordOf x ∧ wordOf x < 4294967296 := by
  unfold wordOf
  split <;> omega
@[irreducible] def zig (b p : Int) : Nat := (if (b - p + 4294967296) % 4294967296 ≥ 2147483648 then -2 * ((b - p + 4294967296) % 4294967296 - 4294967296) - 1 else 2 * ((b - p + 4294967296) % 4294967296)).toNat
theorem zig_hi {b p : Int} (h : (b - p + 4294967296) % 4294967296 ≥ 2147483648) : (zig b p : Int) = -2 * ((b - p + 4294967296) % 4294967296 - 4294967296) - 1 := by
  unfold zig; rw [if_pos h]; omega
theorem zig_lo {b p : Int} (h : ¬ (b - p + 4294967296) % 4294967296 ≥ 2147483648) : (zig b p : Int) = 2 * ((b - p + 4294967296) % 4294967296) := by
  unfold zig; rw [if_neg h]; omega
theorem zig_lt (b p : Int) : zig b p < 4294967296 := by
  by_cases h : (b - p + 4294967296) % 4294967296 ≥ 2147483648
  · have := zig_hi h; omega
  · have := zig_lo h; omega
def byts (z : Nat) : List Int := if z < 128 then [(z : Int)] else ((z % 128 + 128 : Nat) : Int) :: byts (z / 128)
termination_by z
theorem byts_lo {z : Nat} (h : z < 128) : byts z = [(z : Int)] := by rw [byts, if_pos h]
theorem byts_hi {z : Nat} (h : ¬ z < 128) : byts z = ((z % 128 + 128 : Nat) : Int) :: byts (z / 128) := by rw [byts, if_neg h]
theorem byts_len : ∀ (k z : Nat), z < 128 ^ (k + 1) → (byts z).length ≤ k + 1
  | 0, z, h => by
    rw [byts_lo (by simpa using h)]; simp
  | k + 1, z, h => by
    by_cases h0 : z < 128
    · rw [byts_lo h0]; simp
    · rw [byts_hi h0]
      have h1 : z / 128 < 128 ^ (k + 1) := by
        rw [Nat.div_lt_iff_lt_mul (by decide)]
        rw [Nat.pow_succ] at h; exact h
      have := byts_len k (z / 128) h1
      simp only [List.length_cons]
      omega
def prevW (xs : List Nat) : Nat → Int
  | 0 => 0
  | i + 1 => wordOf (xs.getD i 0)
def packTo (xs : List Nat) : Nat → List Int
  | 0 => []
  | i + 1 => packTo xs i ++ byts (zig (wordOf (xs.getD i 0)) (prevW xs i))
theorem packTo_zero (xs : List Nat) : packTo xs 0 = [] := rfl
theorem packTo_succ (xs : List Nat) (i : Nat) : packTo xs (i + 1) = packTo xs i ++ byts (zig (wordOf (xs.getD i 0)) (prevW xs i)) := rfl
theorem prevW_zero (xs : List Nat) : prevW xs 0 = 0 := rfl
theorem prevW_succ (xs : List Nat) (i : Nat) : prevW xs (i + 1) = wordOf (xs.getD i 0) := rfl
theorem packTo_len (xs : List Nat) : ∀ n, (packTo xs n).length ≤ 5 * n
  | 0 => by simp [packTo_zero]
  | n + 1 => by
    have h1 := packTo_len xs n
    have h2 := byts_len 4 (zig (wordOf (xs.getD n 0)) (prevW xs n)) (Nat.lt_of_lt_of_le (zig_lt _ _) (by decide))
    rw [packTo_succ, List.length_append]
    omega
attribute [irreducible] prevW packTo
end Go.Proofs.Ytaiebodmlnpbkaa
