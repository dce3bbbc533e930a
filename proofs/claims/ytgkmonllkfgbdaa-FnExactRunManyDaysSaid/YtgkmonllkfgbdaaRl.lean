/- A river's day, walked. -/
import Derived.Test.YtgkmonllkfgbdaaRk
namespace Go.Proofs.Ytgkmonllkfgbdaa.Cn
set_option linter.unusedSimpArgs false
set_option linter.unusedVariables false
open Go Go.RowKit
section
variable {P : Program} {N B : Nat} {E : Env} {A W : World} {ops : Array Oper} {K : Exit → Env → World → Prop} {T : Tab} {l l0 l' : List Res}
variable {i : Nat} {rest q q' : List Nat} {d : Nat} {op : Op} {ty : TypeId} {pos : String} {aft : Array Edge} {g : Option (Nat × Bool)}
theorem th_make (hT : TabOk P T) {e : TypeId} {tt : TT} {n m : Int} {z : Value} (H : Hp B A W l) (q' : List Nat) (ht : takenO ops.size i q q' = true) (ho : getL ops.toList i = some ⟨some d, op, ty, pos, aft, g⟩) (hg : guardE ops ⟨some d, op, ty, pos, aft, g⟩ E = some true) (hd : Nat.ble (d + 1) N = true)
    (hv : evMk T E ⟨some d, op, ty, pos, aft, g⟩ = some (e, n, m)) (hte : T.at e = some tt) (hz : zeroO tt.zero = some (List.replicate tt.size z)) (hz1 : z.oneCell' = true) (hs0 : Nat.beq tt.zero.cells.size tt.size = true) (hpos : Nat.ble 1 tt.size = true) (h0 : 0 ≤ n) (h1 : m = n) (h3 : (tt.bytes : Int) * m ≤ 1099511627776) (h4 : m ≤ 1099511627776)
    (hs : ∀ b, l0.Sublist (.row e tt.size (.slice (some ⟨b, 0, none⟩) n.toNat n.toNat) n.toNat (List.replicate (n.toNat * tt.size) z) :: l))
    (k : ∀ b W', Hp B A W' (.row e tt.size (.slice (some ⟨b, 0, none⟩) n.toNat n.toNat) n.toNat (List.replicate (n.toNat * tt.size) z) :: l) → SO P N B ops (DH B A l0) K q' ((d, .slice (some ⟨b, 0, none⟩) n.toNat n.toNat) :: E) W') : TurnO P N B ops (DH B A l0) K q E W i := by
  have hzz := zeroO_spec hz
  have hp := Nat.le_of_ble_eq_true hpos
  have hmem : ∀ y ∈ (zerosOf tt.zero).toList, y = z := fun y hy => by rw [hzz] at hy; exact List.eq_of_mem_replicate hy
  have hzl : cl z = z := by
    have : z ∈ (zerosOf tt.zero).toList := by rw [hzz]; exact List.mem_replicate.2 ⟨by omega, rfl⟩
    exact can_zeros _ z this
  refine to_yields q' ht ho hg hd (yh_make hT H hv hte hmem hz1 hzl (Nat.eq_of_beq_eq_true hs0) hp h0 h1 (by omega) h4) fun v' W' h => ?_
  obtain ⟨b, rfl, h⟩ := h
  exact ⟨h.sub (hs b), k b W' h⟩
theorem th_readR (hT : TabOk P T) {α : Type} {f : α → Value} (d0 : α) {ys : List α} {b k n c : Nat} {e : TypeId} (H : Hp B A W l) (q' : List Nat) (ht : takenO ops.size i q q' = true) (ho : getL ops.toList i = some ⟨some d, op, ty, pos, aft, g⟩) (hg : guardE ops ⟨some d, op, ty, pos, aft, g⟩ E = some true) (hd : Nat.ble (d + 1) N = true)
    (hv : evLd T E ⟨some d, op, ty, pos, aft, g⟩ = some ⟨b, k, none⟩) (hm : Res.row e 1 (.slice (some ⟨b, 0, none⟩) n c) n (ys.map f) ∈ l) (hi : k < ys.length) (hs : l0.Sublist l)
    (h : SO P N B ops (DH B A l0) K q' ((d, f (ys.getD k d0)) :: E) W) : TurnO P N B ops (DH B A l0) K q E W i :=
  to_yields q' ht ho hg hd (gh_readT (d0 := d0) hT hv (H.rowRd hm) (Nat.zero_add _).symm hi) fun v' W' h' => by
    obtain ⟨rfl, rfl⟩ := h'
    exact ⟨H.sub hs, h⟩
theorem th_storeT (hT : TabOk P T) {α : Type} (f : α → Value) {y : α} {ys : List α} {b off n m cp : Nat} {e : TypeId} (H : Hp B A W l) (hcan : cv (f y) = f y) (q' : List Nat) (ht : takenO ops.size i q q' = true) (ho : getL ops.toList i = some ⟨none, op, ty, pos, aft, g⟩) (hg : guardE ops ⟨none, op, ty, pos, aft, g⟩ E = some true) (hv : evSt T E ⟨none, op, ty, pos, aft, g⟩ = some (b, off, n, f y))
    (hc : cellsO (f y) = some [f y]) (hn : Nat.beq 1 n = true) (h1 : allOne [f y] = true) (hU : Upd l (.row e 1 (.slice (some ⟨b, 0, none⟩) m cp) m (ys.map f)) (.row e 1 (.slice (some ⟨b, 0, none⟩) m cp) m ((ys.set off y).map f)) l') (hl : off < ys.length)
    (hs : l0.Sublist l') (k : ∀ W', Hp B A W' l' → SO P N B ops (DH B A l0) K q' E W') : TurnO P N B ops (DH B A l0) K q E W i := by
  obtain ⟨h2, h3⟩ := cellsO_spec hc
  have h6 := Nat.eq_of_beq_eq_true hn
  have he := set_map f ys off y hl
  rw [← h2] at he
  obtain ⟨W1, h7, h8⟩ := kh_storeRow (E := E) (N := N) hT H hv h3 (by rw [← Array.length_toList, h2]; exact h6) (by rw [h2]; exact allOne_spec _ h1) hcan hU (by simp; omega) he
  refine ⟨q', ht, _, getL_ok ho, rfl, _, srun_skips hg h7, ?_⟩
  rintro v' W' ⟨-, rfl⟩
  exact ⟨h8.sub hs, k _ h8⟩
end
end Go.Proofs.Ytgkmonllkfgbdaa.Cn
namespace Go.Proofs.Ytgkmonllkfgbdaa
open Go Cn Go.RowKit
section
variable {B : Nat} {A W W' : World} {L L' : List Res} {p1 p2 p3 p4 p5 p6 : Option Addr} {k1 k2 k3 k4 k5 k6 : Nat} {r s : Riv}
theorem c_CloneI (hB : B ≤ W.heap.size) {v : Value} {xs : List Int} (hv : SlI W v xs) (hl : xs.length ≤ 1048576) (hp : 0 < xs.length) :
    ACalls Try.prog B 73 [v] W (fun r W' => ∃ b c, r = .slice (some ⟨b, 0, none⟩) xs.length c ∧ Hp B W W' [.row 2 1 (.slice (some ⟨b, 0, none⟩) xs.length c) xs.length (iC xs)]) := by
  obtain ⟨a, c, rfl, -⟩ := hv.form
  have hv2 := hv
  obtain ⟨b, off, rfl, hr⟩ := hv.read hp
  have H0 : Hp B W W [] := Hp.new hB
  refine acalls_of Try.func73 rfl Try.ntmps73 (Nat.le_of_ble_eq_true rfl) ?_
  repeat' (first | refine s_pure tabOk rfl rfl rfl rfl ?_ | refine Stp.imp ?_ | refine aops_nil ?_ | refine aw_reg ?_ | refine aw_seq ?_ | refine s_pass rfl rfl rfl ?_ | refine s_len tabOk rfl rfl rfl rfl ?_ | refine aw_true rfl ?_ | refine aw_false rfl ?_ | refine blk_exit_other rfl ?_ | refine s_arith tabOk rfl rfl rfl rfl (by simp only [InR]; omega) ?_ | ((first | ((fail_if_success refine s_told rfl rfl ?_); refine s_part rfl rfl rfl ?_ ?_) | refine aw_if rfl ?_ ?_) <;> intro hc <;> (first | replace hc := DecT.imp hc | simp only [decs] at hc | skip)) | refine s_index1n tabOk rfl rfl rfl rfl (by omega) ?_ | refine s_indexn tabOk rfl rfl rfl rfl (by omega) ?_ | refine s_index1 tabOk rfl rfl rfl rfl (by omega) (by omega) ?_ | refine sh_load tabOk (by assumption) rfl rfl rfl rfl (by repeat (first | exact List.Mem.head _ | apply List.Mem.tail)) (by rfl) (by rfl) ?_ | refine sh_loada tabOk (by assumption) rfl rfl rfl rfl (by repeat (first | exact List.Mem.head _ | apply List.Mem.tail)) (by rfl) ?_ | (refine sh_box (by assumption) rfl rfl rfl rfl rfl rfl ?_; intro _ _ _) | (refine sh_alloc tabOk (by assumption) rfl rfl rfl rfl rfl rfl ?_; intro _ _ _) | (refine sh_store tabOk (by assumption) rfl rfl rfl rfl rfl rfl (by repeat (first | exact Upd.here | apply Upd.there)) (by rfl) ?_; intro _ _) | (refine sh_lit tabOk (by assumption) rfl rfl rfl rfl rfl rfl rfl rfl rfl rfl rfl ?_; intro _ _ _) | refine sh_build tabOk rfl rfl rfl rfl rfl rfl ?_)
  refine s_nilSlice tabOk rfl rfl rfl rfl ?_
  repeat' (first | refine s_pure tabOk rfl rfl rfl rfl ?_ | refine Stp.imp ?_ | refine aops_nil ?_ | refine aw_reg ?_ | refine aw_seq ?_ | refine s_pass rfl rfl rfl ?_ | refine s_len tabOk rfl rfl rfl rfl ?_ | refine aw_true rfl ?_ | refine aw_false rfl ?_ | refine blk_exit_other rfl ?_ | refine s_arith tabOk rfl rfl rfl rfl (by simp only [InR]; omega) ?_ | ((first | ((fail_if_success refine s_told rfl rfl ?_); refine s_part rfl rfl rfl ?_ ?_) | refine aw_if rfl ?_ ?_) <;> intro hc <;> (first | replace hc := DecT.imp hc | simp only [decs] at hc | skip)) | refine s_index1n tabOk rfl rfl rfl rfl (by omega) ?_ | refine s_indexn tabOk rfl rfl rfl rfl (by omega) ?_ | refine s_index1 tabOk rfl rfl rfl rfl (by omega) (by omega) ?_ | refine sh_load tabOk (by assumption) rfl rfl rfl rfl (by repeat (first | exact List.Mem.head _ | apply List.Mem.tail)) (by rfl) (by rfl) ?_ | refine sh_loada tabOk (by assumption) rfl rfl rfl rfl (by repeat (first | exact List.Mem.head _ | apply List.Mem.tail)) (by rfl) ?_ | (refine sh_box (by assumption) rfl rfl rfl rfl rfl rfl ?_; intro _ _ _) | (refine sh_alloc tabOk (by assumption) rfl rfl rfl rfl rfl rfl ?_; intro _ _ _) | (refine sh_store tabOk (by assumption) rfl rfl rfl rfl rfl rfl (by repeat (first | exact Upd.here | apply Upd.there)) (by rfl) ?_; intro _ _) | (refine sh_lit tabOk (by assumption) rfl rfl rfl rfl rfl rfl rfl rfl rfl rfl rfl ?_; intro _ _ _) | refine sh_build tabOk rfl rfl rfl rfl rfl rfl ?_)
  refine sh_append tabOk (by assumption) rfl rfl rfl rfl rfl rfl rfl rfl rfl (fun _ _ => (by repeat (first | exact Upd.here | apply Upd.there))) (Hp.sliA (by assumption) hv2) (by omega) ?_
  intro a7 c7 W7 H7
  simp only [Nat.zero_add, List.nil_append] at H7 ⊢
  repeat' (first | refine s_pure tabOk rfl rfl rfl rfl ?_ | refine Stp.imp ?_ | refine aops_nil ?_ | refine aw_reg ?_ | refine aw_seq ?_ | refine s_pass rfl rfl rfl ?_ | refine s_len tabOk rfl rfl rfl rfl ?_ | refine aw_true rfl ?_ | refine aw_false rfl ?_ | refine blk_exit_other rfl ?_ | refine s_arith tabOk rfl rfl rfl rfl (by simp only [InR]; omega) ?_ | ((first | ((fail_if_success refine s_told rfl rfl ?_); refine s_part rfl rfl rfl ?_ ?_) | refine aw_if rfl ?_ ?_) <;> intro hc <;> (first | replace hc := DecT.imp hc | simp only [decs] at hc | skip)) | refine s_index1n tabOk rfl rfl rfl rfl (by omega) ?_ | refine s_indexn tabOk rfl rfl rfl rfl (by omega) ?_ | refine s_index1 tabOk rfl rfl rfl rfl (by omega) (by omega) ?_ | refine sh_load tabOk (by assumption) rfl rfl rfl rfl (by repeat (first | exact List.Mem.head _ | apply List.Mem.tail)) (by rfl) (by rfl) ?_ | refine sh_loada tabOk (by assumption) rfl rfl rfl rfl (by repeat (first | exact List.Mem.head _ | apply List.Mem.tail)) (by rfl) ?_ | (refine sh_box (by assumption) rfl rfl rfl rfl rfl rfl ?_; intro _ _ _) | (refine sh_alloc tabOk (by assumption) rfl rfl rfl rfl rfl rfl ?_; intro _ _ _) | (refine sh_store tabOk (by assumption) rfl rfl rfl rfl rfl rfl (by repeat (first | exact Upd.here | apply Upd.there)) (by rfl) ?_; intro _ _) | (refine sh_lit tabOk (by assumption) rfl rfl rfl rfl rfl rfl rfl rfl rfl rfl rfl ?_; intro _ _ _) | refine sh_build tabOk rfl rfl rfl rfl rfl rfl ?_)
  obtain ⟨b7, rfl⟩ := H7.row_ptr (List.Mem.head _) hp
  refine retK_ret tabOk (congrArg Array.toList Try.results73) (rv_tmp rfl rfl rv_nil) ?_
  exact ⟨_, _, rfl, H7⟩
def DayH (B : Nat) (W W' : World) (v : Value) (r : Riv) (ins : List Int) : Prop :=
  ∃ p1 k1 p2 k2 p3 k3 pa ka pb kb, v = .tuple #[rvV p1 k1 p2 k2 p3 k3 (dayR r ins), .slice pa (dayA r ins).length ka, .slice pb (dayB r ins).length kb, .bool (dayOk r ins)] ∧
    Hp B W W' (rvR p1 k1 p2 k2 p3 k3 (dayR r ins) ++ [.row 2 1 (.slice pa (dayA r ins).length ka) (dayA r ins).length (iC (dayA r ins)), .row 2 1 (.slice pb (dayB r ins).length kb) (dayB r ins).length (iC (dayB r ins))])
theorem hp_nil {B : Nat} {W W' : World} {e : TypeId} {sz : Nat} {L : List Res} (H : Hp B W W' L) : Hp B W W' (.row e sz (.slice none 0 0) 0 [] :: L) := by
  refine ⟨H.hB, H.below, ?_, ?_, ?_⟩
  · intro r hr
    rcases List.mem_cons.1 hr with rfl | hr
    · exact ⟨World.ownsRow_nil _ _ _ _, rfl, fun x hx => by cases hx⟩
    · exact H.ok r hr
  · intro r hr b hf
    rcases List.mem_cons.1 hr with rfl | hr
    · cases hf
    · exact H.own r hr b hf
  · exact List.pairwise_cons.2 ⟨fun r hr b hf => (by cases hf), H.sep⟩
theorem DayH.bad {ins : List Int} {v : Value} (hv : v = .tuple #[.agg #[.slice none 0 0, .slice none 0 0, .slice none 0 0], .slice none 0 0, .slice none 0 0, .bool false]) (hk : dayOk r ins = false) (hb : Hp B W W' []) : DayH B W W' v r ins := by
  unfold DayH dayR dayA dayB
  rw [hk]
  exact ⟨none, 0, none, 0, none, 0, none, 0, none, 0, hv, hp_nil (hp_nil (hp_nil (hp_nil (hp_nil hb))))⟩
theorem DayH.good {ins : List Int} {v : Value} {pa pb : Option Addr} {ka kb : Nat} (hk : dayOk r ins = true)
    (hv : v = .tuple #[rvV p1 k1 p2 k2 p3 k3 ⟨r.ds, (dayS r ins).dm, r.ws⟩, .slice pa (dayS r ins).a.length ka, .slice pb (dayS r ins).b.length kb, .bool true])
    (hb : Hp B W W' (rvR p1 k1 p2 k2 p3 k3 ⟨r.ds, (dayS r ins).dm, r.ws⟩ ++ [.row 2 1 (.slice pa (dayS r ins).a.length ka) (dayS r ins).a.length (iC (dayS r ins).a), .row 2 1 (.slice pb (dayS r ins).b.length kb) (dayS r ins).b.length (iC (dayS r ins).b)])) : DayH B W W' v r ins := by
  unfold DayH dayR dayA dayB
  rw [hk]
  exact ⟨p1, k1, p2, k2, p3, k3, pa, ka, pb, kb, hv, hb⟩
end
end Go.Proofs.Ytgkmonllkfgbdaa
