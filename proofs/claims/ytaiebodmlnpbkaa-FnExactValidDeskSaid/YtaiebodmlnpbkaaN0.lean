/- Single steps more: floats loaded, zeros made, quotients. -/
import Derived.Test.YtaiebodmlnpbkaaHd
namespace Go.Proofs.Ytaiebodmlnpbkaa.Cn
set_option linter.unusedSimpArgs false
set_option linter.unusedVariables false
open Go Go.RowKit
section
variable {P : Program} {N B : Nat} {E : Env} {A W : World} {ops : Array Oper} {K : Exit → Env → World → Prop} {T : Tab} {l l0 l' : List Res} {o : Oper}
variable {i : Nat} {rest q q' : List Nat} {d : Nat} {op : Op} {ty : TypeId} {pos : String} {aft : Array Edge} {g : Option (Nat × Bool)}
theorem th_mk0 (hT : TabOk P T) {e : TypeId} {tt : TT} {n m : Int} {z : Value} (H : Hp B A W l) (q' : List Nat) (ht : takenO ops.size i q q' = true) (ho : getL ops.toList i = some ⟨some d, op, ty, pos, aft, g⟩) (hg : guardE ops ⟨some d, op, ty, pos, aft, g⟩ E = some true) (hd : Nat.ble (d + 1) N = true)
    (hv : evMk T E ⟨some d, op, ty, pos, aft, g⟩ = some (e, n, m)) (hte : T.at e = some tt) (hz : zeroO tt.zero = some (List.replicate tt.size z)) (hz1 : z.oneCell' = true) (hs0 : Nat.beq tt.zero.cells.size tt.size = true) (hpos : Nat.ble 1 tt.size = true) (h0 : 0 ≤ n) (h1 : m = n) (h3 : (tt.bytes : Int) * m ≤ 1099511627776) (h4 : m ≤ 1099511627776)
    (hs : ∀ b, l0.Sublist (.row e tt.size (.slice (some ⟨b, 0, none⟩) n.toNat n.toNat) n.toNat (List.replicate (n.toNat * tt.size) z) :: l))
    (k : ∀ b W', Hp B A W' (.row e tt.size (.slice (some ⟨b, 0, none⟩) n.toNat n.toNat) n.toNat (List.replicate (n.toNat * tt.size) z) :: l) → SO P N B ops (DH B A l0) K q' ((d, .slice (some ⟨b, 0, none⟩) n.toNat n.toNat) :: E) W') : TurnO P N B ops (DH B A l0) K q E W i := by
  have hzz := zeroO_spec hz
  have hp := Nat.le_of_ble_eq_true hpos
  have hmem : ∀ y ∈ (zerosOf tt.zero).toList, y = z := fun y hy => by rw [hzz] at hy; exact List.eq_of_mem_replicate hy
  have hzl : cl z = z := by
    have : z ∈ (zerosOf tt.zero).toList := by rw [hzz]; exact List.mem_replicate.2 ⟨by omega, rfl⟩
    exact can_zeros _ z this
  refine to_yields q' ht ho hg hd (yh_make hT H hv hte hmem hz1 hzl (Nat.eq_of_beq_eq_true hs0) hp h0 h1 (by omega) h4) fun v' W' h => ?_
  obtain ⟨b, rfl, h⟩ := h
  exact ⟨h.sub (hs b), k b W' h⟩
theorem gives_quo {k : IntKind} {n m : Int} (hv : evD E o = some (.quo, k, n, m)) (h0 : 0 ≤ n) (h1 : 1 ≤ m) (hr : InR k n) : Gives P N B o E W (.int k (n / m)) W := by
  refine gives_of fun a w ha hw hB => ⟨.int k (n / m), w, evD_run hv ha w ?_, rfl, rfl⟩
  have e : n.tdiv m = n / m := Int.tdiv_eq_ediv_of_nonneg h0
  have hd1 : n / m ≤ n := Int.ediv_le_self m h0
  have hd2 : 0 ≤ n / m := Int.ediv_nonneg h0 (by omega)
  have hw : k.wrap (n / m) = n / m := wrap_inR (by cases k <;> simp only [InR] at hr ⊢ <;> omega)
  simp [binOp, Op.intDiv, e, hw, show m ≠ 0 by omega]
theorem sh_loadq (hT : TabOk P T) {b j x : Nat} {k : FloatKind} {c : List Value} {e : TypeId} (H : Hp B A W l) (ho : getL ops.toList i = some ⟨some d, op, ty, pos, aft, g⟩) (hg : guardE ops ⟨some d, op, ty, pos, aft, g⟩ E = some true) (hd : Nat.ble (d + 1) N = true)
    (hv : evLd T E ⟨some d, op, ty, pos, aft, g⟩ = some ⟨b, j, none⟩) (hm : Res.blk b c e ∈ l) (hj : subCells c j 1 = some [.float k x]) (h : AOps P N B ops rest K ((d, .float k x) :: E) W) : AOps P N B ops (i :: rest) K E W := by
  refine sh_load hT H ho hg hd hv hm hj ?_ h
  have h1 := (subCells_spec _ _ _ _ hj).1
  have hmem : Value.float k x ∈ c := List.mem_of_mem_drop (List.mem_of_mem_take (h1 ▸ List.mem_cons_self ..))
  have := (H.ok _ hm).2 _ hmem
  simpa [cl, cv, Cn.c1] using this
theorem dh_below (h : DH B A l W) : Below A.heap.size A W := h.below
end
end Go.Proofs.Ytaiebodmlnpbkaa.Cn
