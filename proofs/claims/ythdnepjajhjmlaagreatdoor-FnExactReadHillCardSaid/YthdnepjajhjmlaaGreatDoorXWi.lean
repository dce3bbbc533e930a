/- The listed tables and faults, as the longer rows of this seat give them. -/
import Derived.Test.YthdnepjajhjmlaaGreatDoorXWg
import Derived.Test.YthdnepjajhjmlaaGreatDoorXWc
import Derived.Test.YthdnepjajhjmlaaGreatDoorXVa
import Derived.Test.YthdnepjajhjmlaaGreatDoorXFb
import Derived.Test.YthdnepjajhjmlaaGreatDoorVu
import Derived.Test.YthdnepjajhjmlaaGreatDoorRows
import Derived.Test.YthdnepjajhjmlaaGreatDoorXWe
import Derived.Lib.LaidTab
import Derived.Stop.LaidErr
namespace Go.Proofs.YthdnepjajhjmlaaGreatDoor
set_option linter.unusedSimpArgs false
set_option linter.unusedVariables false
open Go Cn Go.RowKit
def rdW (w : ByteArray) : Nat := hexN 0 w.data.toList
def rdV (w : ByteArray) : Nat := cb .f32 (rdW w)
def rdOk (w : ByteArray) : Bool := decide (w.size = 8) && (w.data.toList.all lhx && decide (wd (rdV w) = rdW w))
theorem hexN_app : ∀ (l : List UInt8) (a : Nat), hexN a l = a * 16 ^ l.length + hexN 0 l
  | [], a => by simp [hexN]
  | c :: r, a => by
    rw [hexN, hexN_app r, hexN, hexN_app r (0 * 16 + lhd c), List.length_cons, Nat.pow_succ]
    rw [Nat.add_mul, Nat.zero_mul, Nat.zero_add, Nat.mul_assoc, Nat.mul_comm 16, Nat.add_assoc]
theorem hexN_lt : ∀ (l : List UInt8), l.all lhx = true → hexN 0 l < 16 ^ l.length
  | [], _ => by simp [hexN]
  | c :: r, h => by
    rw [List.all_cons, Bool.and_eq_true] at h
    have h1 := hexN_lt r h.2
    have h2 := lhd_le h.1
    rw [hexN, hexN_app r, List.length_cons, Nat.pow_succ, Nat.zero_mul, Nat.zero_add]
    have : lhd c * 16 ^ r.length ≤ 15 * 16 ^ r.length := Nat.mul_le_mul_right _ h2
    generalize lhd c * 16 ^ r.length = x at *
    generalize 16 ^ r.length = y at *
    omega
theorem hexC_lhd {c : UInt8} (h : lhx c = true) : hexC (lhd c) = c.toNat := by
  unfold lhx at h
  unfold lhd hexC
  simp only [Bool.or_eq_true, Bool.and_eq_true, decide_eq_true_eq] at h
  split <;> split <;> omega
theorem hexC_small (d : Fin 16) : lhx (UInt8.ofNat (hexC d.val)) = true ∧ lhd (UInt8.ofNat (hexC d.val)) = d.val := by
  revert d; decide
def bytesD (l : List Int) : List UInt8 := l.map fun z => UInt8.ofNat z.toNat
theorem hexD_all (u : Nat) : ∀ k, (bytesD (hexD u k)).all lhx = true
  | 0 => rfl
  | k + 1 => by
    rw [hexD_succ, bytesD, List.map_cons, List.all_cons, ← bytesD, hexD_all u k, Bool.and_true, Int.toNat_natCast]
    exact (hexC_small ⟨u / 16 ^ k % 16, Nat.mod_lt _ (by omega)⟩).1
theorem hexN_hexD (u : Nat) : ∀ k a, hexN a (bytesD (hexD u k)) = a * 16 ^ k + u % 16 ^ k
  | 0, a => by simp [hexD, bytesD, hexN, Nat.mod_one]
  | k + 1, a => by
    rw [hexD_succ, bytesD, List.map_cons, hexN, ← bytesD, hexN_hexD u k, Int.toNat_natCast, (hexC_small ⟨u / 16 ^ k % 16, Nat.mod_lt _ (by omega)⟩).2]
    rw [Nat.pow_succ, Nat.mod_mul, Nat.add_mul, Nat.mul_assoc, Nat.mul_comm 16, Nat.mul_comm (16 ^ k) (u / 16 ^ k % 16)]
    show a * (16 ^ k * 16) + u / 16 ^ k % 16 * 16 ^ k + u % 16 ^ k = a * (16 ^ k * 16) + (u % 16 ^ k + u / 16 ^ k % 16 * 16 ^ k)
    rw [Nat.add_assoc, Nat.add_comm (u % 16 ^ k)]
theorem hexD_hexN : ∀ (l : List UInt8) (a : Nat), l.all lhx = true → bytesD (hexD (hexN a l) l.length) = l
  | [], _, _ => rfl
  | c :: r, a, h => by
    rw [List.all_cons, Bool.and_eq_true] at h
    rw [hexN, List.length_cons, hexD_succ, bytesD, List.map_cons, ← bytesD, hexD_hexN r _ h.2, Int.toNat_natCast, hexN_app r]
    have h1 := hexN_lt r h.2
    have h2 := lhd_le h.1
    have h3 : ((a * 16 + lhd c) * 16 ^ r.length + hexN 0 r) / 16 ^ r.length = a * 16 + lhd c := by
      rw [Nat.mul_comm, Nat.mul_add_div (Nat.pow_pos (by omega)), Nat.div_eq_of_lt h1, Nat.add_zero]
    rw [h3, show (a * 16 + lhd c) % 16 = lhd c by omega, hexC_lhd h.1]
    congr 1
    exact UInt8.ofNat_toNat
theorem hex8_list (m : Nat) : (hex8 m).data.toList = bytesD (hexD m 8) := by
  unfold hex8 bytesD
  rw [strOfNums_data]
theorem hex8_size (m : Nat) : (hex8 m).size = 8 := by
  unfold hex8
  rw [strOfNums_size, hexD_len]
theorem hex8_all (m : Nat) : (hex8 m).data.toList.all lhx = true := by rw [hex8_list]; exact hexD_all m 8
theorem rdW_hex8 {m : Nat} (h : m < 4294967296) : rdW (hex8 m) = m := by
  unfold rdW
  rw [hex8_list, hexN_hexD, Nat.zero_mul, Nat.zero_add]
  exact Nat.mod_eq_of_lt h
theorem hex8_rdW {w : ByteArray} (h8 : w.size = 8) (ha : w.data.toList.all lhx = true) : hex8 (rdW w) = w := by
  apply ByteArray.ext
  apply Array.toList_inj.1
  rw [hex8_list]
  have := hexD_hexN w.data.toList 0 ha
  rw [show w.data.toList.length = 8 from (sz_len w).trans h8] at this
  exact this
theorem rdOk_iff {w : ByteArray} : rdOk w = true ↔ w.size = 8 ∧ w.data.toList.all lhx = true ∧ wd (rdV w) = rdW w := by
  unfold rdOk; simp only [Bool.and_eq_true, decide_eq_true_eq]
theorem rdOk_good {w : ByteArray} (h : rdOk w = true) : GoodS w := by
  obtain ⟨h1, h2, -⟩ := rdOk_iff.1 h
  exact ⟨by omega, h2, by rw [sz_len]; omega⟩
theorem rd_impl {w : ByteArray} {u : Nat} (hu : u ≤ 4294967295) (h : GoodS w → u = rdW w) : decide (hx8 (cb .f32 u) = w) = rdOk w ∧ (rdOk w = true → cb .f32 u = rdV w) := by
  by_cases hk : rdOk w = true
  · obtain ⟨h1, h2, h3⟩ := rdOk_iff.1 hk
    obtain rfl := h (rdOk_good hk)
    refine ⟨?_, fun _ => rfl⟩
    rw [hk, decide_eq_true_eq]
    show hex8 (wd (rdV w)) = w
    rw [h3, hex8_rdW h1 h2]
  · refine ⟨?_, fun h => absurd h hk⟩
    rw [Bool.not_eq_true] at hk
    rw [hk, decide_eq_false_iff_not]
    intro he
    have hm := (wd_word (cb_lt (x := u) (by omega))).2
    have he2 : hex8 (wd (cb .f32 u)) = w := he
    generalize hmm : wd (cb .f32 u) = m at hm he2
    subst he2
    have hW := rdW_hex8 hm
    have hs := hex8_size m
    have hu2 := h ⟨by omega, hex8_all m, by rw [sz_len]; omega⟩
    rw [hW] at hu2
    subst hu2
    rw [← Bool.not_eq_true, rdOk_iff] at hk
    exact hk ⟨hs, hex8_all u, by unfold rdV; rw [hW]; exact hmm⟩
/-- a text's words -/
def none4 : ByteArray := ⟨#[110, 111, 110, 101]⟩
def rdT (t : ByteArray) : List ByteArray := if t = none4 then [] else cutB 44 t
def rdAll (t : ByteArray) : Bool := decide ((rdT t).length ≤ 256) && (rdT t).all rdOk
section
variable {P : Program} {N B : Nat} {E : Env} {W : World} {ops : Array Oper} {K : Exit → Env → World → Prop} {T : Tab} {o : Oper}
/-- whether there is no fault -/
def evNil (E : Env) (o : Oper) : Option Bool :=
  match o.op with
  | .binOp .eql _ x (.const .nilIface) _ => match ev E x with
    | some .nilIface => some true
    | some (.iface _ _) => some false
    | _ => none
  | _ => none
theorem cv_nilIface {u : Value} (h : cv u = .nilIface) : u = .nilIface := by cases u <;> simp_all [cv, c1, cl]
theorem cv_iface {u : Value} {d : TypeId} {z : Value} (h : cv u = .iface d z) : u = .iface d z := by cases u <;> simp_all [cv, c1, cl]
theorem gives_isnil {b : Bool} (hv : evNil E o = some b) (ht : ∀ p t x y z, o.op = .binOp p t x y z → ∃ ms, P.underlying t = some (.interface ms)) : Gives P N B o E W (.bool b) W := by
  refine gives_of fun a w ha hw hB => ⟨.bool b, w, ?_, rfl, rfl⟩
  unfold evNil at hv
  split at hv
  · rename_i op t x z ho
    obtain ⟨ms, hm⟩ := ht _ _ _ _ _ ho
    have q1 : ∀ d : Nat, (Op.equalIn (d + 1) t .nilIface .nilIface).run P w = .ok true w := fun d => by
      simp [Op.equalIn, run_underlying hm]
    have q2 : ∀ (d : Nat) (k : TypeId) (v : Value), (Op.equalIn (d + 1) t (.iface k v) .nilIface).run P w = .ok false w := fun d k v => by
      simp [Op.equalIn, run_underlying hm]
    split at hv
    · rename_i hx
      cases hv
      have e1 := cv_nilIface (ev_sound ha hx)
      have e2 : a.eval (.const .nilIface) = .nilIface := rfl
      simp only [execOp, ho, e1, e2]
      refine run_v ?_
      simp only [eqGuard_nil_constR, binOp]
      simp [Op.equal, Op.maxDepth, q1 9999]
    · rename_i d v hx
      cases hv
      have e1 := cv_iface (ev_sound ha hx)
      have e2 : a.eval (.const .nilIface) = .nilIface := rfl
      simp only [execOp, ho, e1, e2]
      refine run_v ?_
      simp only [eqGuard_at_iface, binOp]
      simp [Op.equal, Op.maxDepth, q2 9999]
    · cases hv
  · cases hv
theorem s_isnil {i : Nat} {rest : List Nat} {d : Nat} {op : Op} {ty : TypeId} {pos : String} {aft : Array Edge} {g : Option (Nat × Bool)} {b : Bool} (ho : getL ops.toList i = some ⟨some d, op, ty, pos, aft, g⟩) (hg : guardE ops ⟨some d, op, ty, pos, aft, g⟩ E = some true) (hd : Nat.ble (d + 1) N = true)
    (hv : evNil E ⟨some d, op, ty, pos, aft, g⟩ = some b) (ht : ∀ p t x y z, op = .binOp p t x y z → ∃ ms, P.underlying t = some (.interface ms)) (h : AOps P N B ops rest K ((d, .bool b) :: E) W) : AOps P N B ops (i :: rest) K E W :=
  s_givesv ho hg hd (gives_isnil hv ht) h
end
end Go.Proofs.YthdnepjajhjmlaaGreatDoor
namespace Go.Proofs.YthdnepjajhjmlaaGreatDoor
set_option linter.unusedSimpArgs false
set_option linter.unusedVariables false
open Go Cn Go.RowKit
section
variable {B : Nat} {A W W' : World} {L L' : List Res}
/-- the library's two faults -/
def ErG (W : World) : Prop := (∃ t p, W.cell? ⟨2, 0, none⟩ = some (.iface t p)) ∧ ∃ t p, W.cell? ⟨3, 0, none⟩ = some (.iface t p)
theorem ErG.below {A W : World} (h : ErG A) (hb : Below A.heap.size A W) : ErG W := by
  obtain ⟨⟨t1, p1, h1⟩, t2, p2, h2⟩ := h
  exact ⟨⟨t1, p1, (hb.cell (World.block_lt_of_cell? _ _ h1)).trans h1⟩, t2, p2, (hb.cell (World.block_lt_of_cell? _ _ h2)).trans h2⟩
theorem ErG.hp {A : World} {l : List Res} (h : ErG A) (H : Hp B A W l) : ErG W := h.below H.below
theorem cl_iface {o : Option Value} {t : TypeId} {p : Value} (h : o.map cl = some (.iface t p)) : o = some (.iface t p) := by
  cases o with
  | none => cases h
  | some v => cases v <;> simp_all [cl]
theorem ErG.raw {w : World} (h : ErG (cw B w)) : ErG w := by
  obtain ⟨⟨t1, p1, h1⟩, t2, p2, h2⟩ := h
  rw [cw_cell] at h1 h2
  refine ⟨⟨t1, p1, ?_⟩, t2, p2, ?_⟩
  · split at h1
    · exact h1
    · exact cl_iface h1
  · split at h2
    · exact h2
    · exact cl_iface h2
theorem strint3 {xs : Array Value} {a : ByteArray} {k q : IntKind} {n m : Int} (h : xs.toList.map cv = [.string a, .int k n, .int q m]) : xs = #[.string a, .int k n, .int q m] := by
  obtain ⟨l⟩ := xs
  match l, h with
  | [u, v, z], h =>
    simp only [List.map_cons, List.map_nil, List.cons.injEq, and_true] at h
    rw [cv_string h.1, cv_int h.2.1, cv_int h.2.2]
  | [], h => cases h
  | [_], h => simp at h
  | [_, _], h => simp at h
  | _ :: _ :: _ :: _ :: _, h => simp at h
theorem c_ParseUint (hE : ErG W) {s : ByteArray} (hlim : s.size ≤ 1048576) (hB : B ≤ W.heap.size) :
    ACalls Tryz.prog B 37 [.string s, .int .i64 16, .int .i64 32] W (fun r W' => (∃ (u : Nat) (f : Value), u ≤ 4294967295 ∧ r = .tuple #[.int .u64 u, f] ∧ ((f = .nilIface ∧ (GoodS s → u = rdW s)) ∨ (¬ GoodS s ∧ ∃ t N, f = .iface t (.pointer (some ⟨N, 0, none⟩))))) ∧ Hp B W W' []) := by
  refine acalls_intro fun xs w e1 e2 e3 => ?_
  subst e2
  rw [strint3 e1]
  obtain ⟨⟨t1, p1, h1⟩, t2, p2, h2⟩ := hE.raw
  refine (hex_pub Tryz.laysPu14 s (by omega) (.iface t1 p1) (.iface t2 p2) w h1 (.inr ⟨_, _, rfl⟩) h2 (.inr ⟨_, _, rfl⟩)).mono fun e w' ⟨⟨u, f, hu, he, hf⟩, hw⟩ => ?_
  refine ⟨_, he, Nat.le_trans e3 hw.size, ⟨u, f, hu, ?_, ?_⟩, ?_⟩
  · rcases hf with ⟨rfl, -⟩ | ⟨-, N, rfl⟩ <;> simp [cv, c1, cl]
  · rcases hf with ⟨rfl, h⟩ | ⟨h, N, rfl⟩
    · exact .inl ⟨rfl, h⟩
    · exact .inr ⟨h, _, N, rfl⟩
  · have := (Hp.new (B := B) (W := cw B w) (by simpa using e3)).grow (by rw [cw_size]; exact Below.cwB hw)
    exact this
theorem c_readDigits (hD : DbG W) (hE : ErG W) {s : ByteArray} (hlim : s.size ≤ 1048576) (hB : B ≤ W.heap.size) :
    ACalls Tryz.prog B 25 [.string s] W (fun r W' => (∃ x, r = .tuple #[.float .f32 x, .bool (rdOk s)] ∧ (rdOk s = true → x = rdV s)) ∧ Hp B W W' []) := by
  have H0 : Hp B W W [] := Hp.new hB
  refine acalls_of Tryz.func25 rfl Tryz.ntmps25 (Nat.le_of_ble_eq_true rfl) ?_
  repeat' (first | refine s_pure tabOk rfl rfl rfl rfl ?_ | refine Stp.imp ?_ | refine aops_nil ?_ | refine aw_reg ?_ | refine aw_seq ?_ | refine s_pass rfl rfl rfl ?_ | refine s_len tabOk rfl rfl rfl rfl ?_ | refine aw_true rfl ?_ | refine aw_false rfl ?_ | refine blk_exit_other rfl ?_ | refine s_arith tabOk rfl rfl rfl rfl (by simp only [InR]; omega) ?_ | ((first | ((fail_if_success refine s_told rfl rfl ?_); refine s_part rfl rfl rfl ?_ ?_) | refine aw_if rfl ?_ ?_) <;> intro hc <;> (first | replace hc := DecT.imp hc | simp only [decs] at hc | skip)) | refine s_index1n tabOk rfl rfl rfl rfl (by omega) ?_ | refine s_indexn tabOk rfl rfl rfl rfl (by omega) ?_ | refine s_index1 tabOk rfl rfl rfl rfl (by omega) (by omega) ?_ | refine sh_load tabOk (by assumption) rfl rfl rfl rfl (by repeat (first | exact List.Mem.head _ | apply List.Mem.tail)) (by rfl) (by rfl) ?_ | refine sh_loada tabOk (by assumption) rfl rfl rfl rfl (by repeat (first | exact List.Mem.head _ | apply List.Mem.tail)) (by rfl) ?_ | (refine sh_box (by assumption) rfl rfl rfl rfl rfl rfl ?_; intro _ _ _) | (refine sh_alloc tabOk (by assumption) rfl rfl rfl rfl rfl rfl ?_; intro _ _ _) | (refine sh_store tabOk (by assumption) rfl rfl rfl rfl rfl rfl (by repeat (first | exact Upd.here | apply Upd.there)) (by rfl) ?_; intro _ _) | (refine sh_lit tabOk (by assumption) rfl rfl rfl rfl rfl rfl rfl rfl rfl rfl rfl ?_; intro _ _ _) | refine sh_build tabOk rfl rfl rfl rfl rfl rfl ?_)
  refine s_call rfl rfl rfl rfl ent37 (c_ParseUint hE hlim hB) ?_
  rintro _ W1 ⟨⟨u, f, hu, rfl, hf⟩, q1⟩
  rcases hf with ⟨rfl, hg⟩ | ⟨hg, t, M, rfl⟩
  · obtain ⟨i1, i2⟩ := rd_impl hu hg
    repeat' (first | refine s_pure tabOk rfl rfl rfl rfl ?_ | refine Stp.imp ?_ | refine aops_nil ?_ | refine aw_reg ?_ | refine aw_seq ?_ | refine s_pass rfl rfl rfl ?_ | refine s_len tabOk rfl rfl rfl rfl ?_ | refine aw_true rfl ?_ | refine aw_false rfl ?_ | refine blk_exit_other rfl ?_ | refine s_arith tabOk rfl rfl rfl rfl (by simp only [InR]; omega) ?_ | ((first | ((fail_if_success refine s_told rfl rfl ?_); refine s_part rfl rfl rfl ?_ ?_) | refine aw_if rfl ?_ ?_) <;> intro hc <;> (first | replace hc := DecT.imp hc | simp only [decs] at hc | skip)) | refine s_index1n tabOk rfl rfl rfl rfl (by omega) ?_ | refine s_indexn tabOk rfl rfl rfl rfl (by omega) ?_ | refine s_index1 tabOk rfl rfl rfl rfl (by omega) (by omega) ?_ | refine sh_load tabOk (by assumption) rfl rfl rfl rfl (by repeat (first | exact List.Mem.head _ | apply List.Mem.tail)) (by rfl) (by rfl) ?_ | refine sh_loada tabOk (by assumption) rfl rfl rfl rfl (by repeat (first | exact List.Mem.head _ | apply List.Mem.tail)) (by rfl) ?_ | (refine sh_box (by assumption) rfl rfl rfl rfl rfl rfl ?_; intro _ _ _) | (refine sh_alloc tabOk (by assumption) rfl rfl rfl rfl rfl rfl ?_; intro _ _ _) | (refine sh_store tabOk (by assumption) rfl rfl rfl rfl rfl rfl (by repeat (first | exact Upd.here | apply Upd.there)) (by rfl) ?_; intro _ _) | (refine sh_lit tabOk (by assumption) rfl rfl rfl rfl rfl rfl rfl rfl rfl rfl rfl ?_; intro _ _ _) | refine sh_build tabOk rfl rfl rfl rfl rfl rfl ?_)
    refine s_ext rfl rfl rfl rfl (x_math_Float32frombits _) ?_
    rintro _ W2 ⟨rfl, rfl⟩
    repeat' (first | refine s_pure tabOk rfl rfl rfl rfl ?_ | refine Stp.imp ?_ | refine aops_nil ?_ | refine aw_reg ?_ | refine aw_seq ?_ | refine s_pass rfl rfl rfl ?_ | refine s_len tabOk rfl rfl rfl rfl ?_ | refine aw_true rfl ?_ | refine aw_false rfl ?_ | refine blk_exit_other rfl ?_ | refine s_arith tabOk rfl rfl rfl rfl (by simp only [InR]; omega) ?_ | ((first | ((fail_if_success refine s_told rfl rfl ?_); refine s_part rfl rfl rfl ?_ ?_) | refine aw_if rfl ?_ ?_) <;> intro hc <;> (first | replace hc := DecT.imp hc | simp only [decs] at hc | skip)) | refine s_index1n tabOk rfl rfl rfl rfl (by omega) ?_ | refine s_indexn tabOk rfl rfl rfl rfl (by omega) ?_ | refine s_index1 tabOk rfl rfl rfl rfl (by omega) (by omega) ?_ | refine sh_load tabOk (by assumption) rfl rfl rfl rfl (by repeat (first | exact List.Mem.head _ | apply List.Mem.tail)) (by rfl) (by rfl) ?_ | refine sh_loada tabOk (by assumption) rfl rfl rfl rfl (by repeat (first | exact List.Mem.head _ | apply List.Mem.tail)) (by rfl) ?_ | (refine sh_box (by assumption) rfl rfl rfl rfl rfl rfl ?_; intro _ _ _) | (refine sh_alloc tabOk (by assumption) rfl rfl rfl rfl rfl rfl ?_; intro _ _ _) | (refine sh_store tabOk (by assumption) rfl rfl rfl rfl rfl rfl (by repeat (first | exact Upd.here | apply Upd.there)) (by rfl) ?_; intro _ _) | (refine sh_lit tabOk (by assumption) rfl rfl rfl rfl rfl rfl rfl rfl rfl rfl rfl ?_; intro _ _ _) | refine sh_build tabOk rfl rfl rfl rfl rfl rfl ?_)
    refine s_isnil rfl rfl rfl rfl (fun p t x y z h => by cases h; exact ⟨_, Tryz.underlying60⟩) ?_
    repeat' (first | refine s_pure tabOk rfl rfl rfl rfl ?_ | refine Stp.imp ?_ | refine aops_nil ?_ | refine aw_reg ?_ | refine aw_seq ?_ | refine s_pass rfl rfl rfl ?_ | refine s_len tabOk rfl rfl rfl rfl ?_ | refine aw_true rfl ?_ | refine aw_false rfl ?_ | refine blk_exit_other rfl ?_ | refine s_arith tabOk rfl rfl rfl rfl (by simp only [InR]; omega) ?_ | ((first | ((fail_if_success refine s_told rfl rfl ?_); refine s_part rfl rfl rfl ?_ ?_) | refine aw_if rfl ?_ ?_) <;> intro hc <;> (first | replace hc := DecT.imp hc | simp only [decs] at hc | skip)) | refine s_index1n tabOk rfl rfl rfl rfl (by omega) ?_ | refine s_indexn tabOk rfl rfl rfl rfl (by omega) ?_ | refine s_index1 tabOk rfl rfl rfl rfl (by omega) (by omega) ?_ | refine sh_load tabOk (by assumption) rfl rfl rfl rfl (by repeat (first | exact List.Mem.head _ | apply List.Mem.tail)) (by rfl) (by rfl) ?_ | refine sh_loada tabOk (by assumption) rfl rfl rfl rfl (by repeat (first | exact List.Mem.head _ | apply List.Mem.tail)) (by rfl) ?_ | (refine sh_box (by assumption) rfl rfl rfl rfl rfl rfl ?_; intro _ _ _) | (refine sh_alloc tabOk (by assumption) rfl rfl rfl rfl rfl rfl ?_; intro _ _ _) | (refine sh_store tabOk (by assumption) rfl rfl rfl rfl rfl rfl (by repeat (first | exact Upd.here | apply Upd.there)) (by rfl) ?_; intro _ _) | (refine sh_lit tabOk (by assumption) rfl rfl rfl rfl rfl rfl rfl rfl rfl rfl rfl ?_; intro _ _ _) | refine sh_build tabOk rfl rfl rfl rfl rfl rfl ?_)
    refine s_call rfl rfl rfl rfl ent39 (c_digits (hD.hp q1) (x := cb .f32 u) (cb_lt (by omega)) (Hp.size q1)) ?_
    rintro _ W3 ⟨rfl, q3⟩
    have H3 := Hp.call0 q1 q3
    repeat' (first | refine s_pure tabOk rfl rfl rfl rfl ?_ | refine Stp.imp ?_ | refine aops_nil ?_ | refine aw_reg ?_ | refine aw_seq ?_ | refine s_pass rfl rfl rfl ?_ | refine s_len tabOk rfl rfl rfl rfl ?_ | refine aw_true rfl ?_ | refine aw_false rfl ?_ | refine blk_exit_other rfl ?_ | refine s_arith tabOk rfl rfl rfl rfl (by simp only [InR]; omega) ?_ | ((first | ((fail_if_success refine s_told rfl rfl ?_); refine s_part rfl rfl rfl ?_ ?_) | refine aw_if rfl ?_ ?_) <;> intro hc <;> (first | replace hc := DecT.imp hc | simp only [decs] at hc | skip)) | refine s_index1n tabOk rfl rfl rfl rfl (by omega) ?_ | refine s_indexn tabOk rfl rfl rfl rfl (by omega) ?_ | refine s_index1 tabOk rfl rfl rfl rfl (by omega) (by omega) ?_ | refine sh_load tabOk (by assumption) rfl rfl rfl rfl (by repeat (first | exact List.Mem.head _ | apply List.Mem.tail)) (by rfl) (by rfl) ?_ | refine sh_loada tabOk (by assumption) rfl rfl rfl rfl (by repeat (first | exact List.Mem.head _ | apply List.Mem.tail)) (by rfl) ?_ | (refine sh_box (by assumption) rfl rfl rfl rfl rfl rfl ?_; intro _ _ _) | (refine sh_alloc tabOk (by assumption) rfl rfl rfl rfl rfl rfl ?_; intro _ _ _) | (refine sh_store tabOk (by assumption) rfl rfl rfl rfl rfl rfl (by repeat (first | exact Upd.here | apply Upd.there)) (by rfl) ?_; intro _ _) | (refine sh_lit tabOk (by assumption) rfl rfl rfl rfl rfl rfl rfl rfl rfl rfl rfl ?_; intro _ _ _) | refine sh_build tabOk rfl rfl rfl rfl rfl rfl ?_)
    refine retK_ret tabOk (congrArg Array.toList Tryz.results25) (by repeat (first | exact rv_nil | apply rv_tmp rfl rfl | apply rv_cellH (by assumption) rfl rfl rfl (by repeat (first | exact List.Mem.head _ | apply List.Mem.tail)) rfl)) ?_
    exact ⟨⟨cb .f32 u, by rw [← i1, ← bs_beq]; rfl, i2⟩, H3⟩
  · have hk : rdOk s = false := by
      cases h : rdOk s
      · rfl
      · exact absurd (rdOk_good h) hg
    repeat' (first | refine s_pure tabOk rfl rfl rfl rfl ?_ | refine Stp.imp ?_ | refine aops_nil ?_ | refine aw_reg ?_ | refine aw_seq ?_ | refine s_pass rfl rfl rfl ?_ | refine s_len tabOk rfl rfl rfl rfl ?_ | refine aw_true rfl ?_ | refine aw_false rfl ?_ | refine blk_exit_other rfl ?_ | refine s_arith tabOk rfl rfl rfl rfl (by simp only [InR]; omega) ?_ | ((first | ((fail_if_success refine s_told rfl rfl ?_); refine s_part rfl rfl rfl ?_ ?_) | refine aw_if rfl ?_ ?_) <;> intro hc <;> (first | replace hc := DecT.imp hc | simp only [decs] at hc | skip)) | refine s_index1n tabOk rfl rfl rfl rfl (by omega) ?_ | refine s_indexn tabOk rfl rfl rfl rfl (by omega) ?_ | refine s_index1 tabOk rfl rfl rfl rfl (by omega) (by omega) ?_ | refine sh_load tabOk (by assumption) rfl rfl rfl rfl (by repeat (first | exact List.Mem.head _ | apply List.Mem.tail)) (by rfl) (by rfl) ?_ | refine sh_loada tabOk (by assumption) rfl rfl rfl rfl (by repeat (first | exact List.Mem.head _ | apply List.Mem.tail)) (by rfl) ?_ | (refine sh_box (by assumption) rfl rfl rfl rfl rfl rfl ?_; intro _ _ _) | (refine sh_alloc tabOk (by assumption) rfl rfl rfl rfl rfl rfl ?_; intro _ _ _) | (refine sh_store tabOk (by assumption) rfl rfl rfl rfl rfl rfl (by repeat (first | exact Upd.here | apply Upd.there)) (by rfl) ?_; intro _ _) | (refine sh_lit tabOk (by assumption) rfl rfl rfl rfl rfl rfl rfl rfl rfl rfl rfl ?_; intro _ _ _) | refine sh_build tabOk rfl rfl rfl rfl rfl rfl ?_)
    refine s_ext rfl rfl rfl rfl (x_math_Float32frombits _) ?_
    rintro _ W2 ⟨rfl, rfl⟩
    repeat' (first | refine s_pure tabOk rfl rfl rfl rfl ?_ | refine Stp.imp ?_ | refine aops_nil ?_ | refine aw_reg ?_ | refine aw_seq ?_ | refine s_pass rfl rfl rfl ?_ | refine s_len tabOk rfl rfl rfl rfl ?_ | refine aw_true rfl ?_ | refine aw_false rfl ?_ | refine blk_exit_other rfl ?_ | refine s_arith tabOk rfl rfl rfl rfl (by simp only [InR]; omega) ?_ | ((first | ((fail_if_success refine s_told rfl rfl ?_); refine s_part rfl rfl rfl ?_ ?_) | refine aw_if rfl ?_ ?_) <;> intro hc <;> (first | replace hc := DecT.imp hc | simp only [decs] at hc | skip)) | refine s_index1n tabOk rfl rfl rfl rfl (by omega) ?_ | refine s_indexn tabOk rfl rfl rfl rfl (by omega) ?_ | refine s_index1 tabOk rfl rfl rfl rfl (by omega) (by omega) ?_ | refine sh_load tabOk (by assumption) rfl rfl rfl rfl (by repeat (first | exact List.Mem.head _ | apply List.Mem.tail)) (by rfl) (by rfl) ?_ | refine sh_loada tabOk (by assumption) rfl rfl rfl rfl (by repeat (first | exact List.Mem.head _ | apply List.Mem.tail)) (by rfl) ?_ | (refine sh_box (by assumption) rfl rfl rfl rfl rfl rfl ?_; intro _ _ _) | (refine sh_alloc tabOk (by assumption) rfl rfl rfl rfl rfl rfl ?_; intro _ _ _) | (refine sh_store tabOk (by assumption) rfl rfl rfl rfl rfl rfl (by repeat (first | exact Upd.here | apply Upd.there)) (by rfl) ?_; intro _ _) | (refine sh_lit tabOk (by assumption) rfl rfl rfl rfl rfl rfl rfl rfl rfl rfl rfl ?_; intro _ _ _) | refine sh_build tabOk rfl rfl rfl rfl rfl rfl ?_)
    refine s_isnil rfl rfl rfl rfl (fun p t x y z h => by cases h; exact ⟨_, Tryz.underlying60⟩) ?_
    repeat' (first | refine s_pure tabOk rfl rfl rfl rfl ?_ | refine Stp.imp ?_ | refine aops_nil ?_ | refine aw_reg ?_ | refine aw_seq ?_ | refine s_pass rfl rfl rfl ?_ | refine s_len tabOk rfl rfl rfl rfl ?_ | refine aw_true rfl ?_ | refine aw_false rfl ?_ | refine blk_exit_other rfl ?_ | refine s_arith tabOk rfl rfl rfl rfl (by simp only [InR]; omega) ?_ | ((first | ((fail_if_success refine s_told rfl rfl ?_); refine s_part rfl rfl rfl ?_ ?_) | refine aw_if rfl ?_ ?_) <;> intro hc <;> (first | replace hc := DecT.imp hc | simp only [decs] at hc | skip)) | refine s_index1n tabOk rfl rfl rfl rfl (by omega) ?_ | refine s_indexn tabOk rfl rfl rfl rfl (by omega) ?_ | refine s_index1 tabOk rfl rfl rfl rfl (by omega) (by omega) ?_ | refine sh_load tabOk (by assumption) rfl rfl rfl rfl (by repeat (first | exact List.Mem.head _ | apply List.Mem.tail)) (by rfl) (by rfl) ?_ | refine sh_loada tabOk (by assumption) rfl rfl rfl rfl (by repeat (first | exact List.Mem.head _ | apply List.Mem.tail)) (by rfl) ?_ | (refine sh_box (by assumption) rfl rfl rfl rfl rfl rfl ?_; intro _ _ _) | (refine sh_alloc tabOk (by assumption) rfl rfl rfl rfl rfl rfl ?_; intro _ _ _) | (refine sh_store tabOk (by assumption) rfl rfl rfl rfl rfl rfl (by repeat (first | exact Upd.here | apply Upd.there)) (by rfl) ?_; intro _ _) | (refine sh_lit tabOk (by assumption) rfl rfl rfl rfl rfl rfl rfl rfl rfl rfl rfl ?_; intro _ _ _) | refine sh_build tabOk rfl rfl rfl rfl rfl rfl ?_)
    refine retK_ret tabOk (congrArg Array.toList Tryz.results25) (by repeat (first | exact rv_nil | apply rv_tmp rfl rfl | apply rv_cellH (by assumption) rfl rfl rfl (by repeat (first | exact List.Mem.head _ | apply List.Mem.tail)) rfl)) ?_
    exact ⟨⟨cb .f32 u, by rw [hk]; rfl, fun h => by rw [hk] at h; cases h⟩, q1⟩
theorem rdT_len (t : ByteArray) : (rdT t).length ≤ t.size + 1 := by
  unfold rdT
  split
  · exact Nat.zero_le _
  · exact cutB_len 44 t
theorem c_apart (hG : LibG W) {t : ByteArray} (hs : t.size ≤ 1048576) (hB : B ≤ W.heap.size) :
    ACalls Tryz.prog B 24 [.string t] W (fun r W' => ∃ a c, r = .tuple #[.slice a (rdT t).length c, .bool (decide ((rdT t).length ≤ 256))] ∧ SlV W' 1 (.slice a (rdT t).length c) (rdT t).length ((rdT t).map .string) ∧ Hp B W W' []) := by
  have H0 : Hp B W W [] := Hp.new hB
  refine acalls_of Tryz.func24 rfl Tryz.ntmps24 (Nat.le_of_ble_eq_true rfl) ?_
  repeat' (first | refine s_pure tabOk rfl rfl rfl rfl ?_ | refine Stp.imp ?_ | refine aops_nil ?_ | refine aw_reg ?_ | refine aw_seq ?_ | refine s_pass rfl rfl rfl ?_ | refine s_len tabOk rfl rfl rfl rfl ?_ | refine aw_true rfl ?_ | refine aw_false rfl ?_ | refine blk_exit_other rfl ?_ | refine s_arith tabOk rfl rfl rfl rfl (by simp only [InR]; omega) ?_ | ((first | ((fail_if_success refine s_told rfl rfl ?_); refine s_part rfl rfl rfl ?_ ?_) | refine aw_if rfl ?_ ?_) <;> intro hc <;> (first | replace hc := DecT.imp hc | simp only [decs] at hc | skip)) | refine s_index1n tabOk rfl rfl rfl rfl (by omega) ?_ | refine s_indexn tabOk rfl rfl rfl rfl (by omega) ?_ | refine s_index1 tabOk rfl rfl rfl rfl (by omega) (by omega) ?_ | refine sh_load tabOk (by assumption) rfl rfl rfl rfl (by repeat (first | exact List.Mem.head _ | apply List.Mem.tail)) (by rfl) (by rfl) ?_ | refine sh_loada tabOk (by assumption) rfl rfl rfl rfl (by repeat (first | exact List.Mem.head _ | apply List.Mem.tail)) (by rfl) ?_ | (refine sh_box (by assumption) rfl rfl rfl rfl rfl rfl ?_; intro _ _ _) | (refine sh_alloc tabOk (by assumption) rfl rfl rfl rfl rfl rfl ?_; intro _ _ _) | (refine sh_store tabOk (by assumption) rfl rfl rfl rfl rfl rfl (by repeat (first | exact Upd.here | apply Upd.there)) (by rfl) ?_; intro _ _) | (refine sh_lit tabOk (by assumption) rfl rfl rfl rfl rfl rfl rfl rfl rfl rfl rfl ?_; intro _ _ _) | refine sh_build tabOk rfl rfl rfl rfl rfl rfl ?_)
  · have ht : t = none4 := bs_eq.1 hc
    refine retK_ret tabOk (congrArg Array.toList Tryz.results24) (by repeat (first | exact rv_nil | apply rv_tmp rfl rfl | apply rv_cellH (by assumption) rfl rfl rfl (by repeat (first | exact List.Mem.head _ | apply List.Mem.tail)) rfl)) ?_
    have e : rdT t = [] := by unfold rdT; rw [if_pos ht]
    exact ⟨none, 0, by rw [e]; rfl, by rw [e]; exact ⟨rfl, .inl ⟨rfl, .inl rfl⟩⟩, H0⟩
  · have ht : t ≠ none4 := fun h => hc (bs_eq.2 h)
    have e : rdT t = cutB 44 t := by unfold rdT; rw [if_neg ht]
    refine s_call rfl rfl rfl rfl ent22 (c_Split hG (c := 44) hs hB) ?_
    rintro _ W1 ⟨b, rfl, q1⟩
    have H1 := Hp.call1 H0 q1
    repeat' (first | refine s_pure tabOk rfl rfl rfl rfl ?_ | refine Stp.imp ?_ | refine aops_nil ?_ | refine aw_reg ?_ | refine aw_seq ?_ | refine s_pass rfl rfl rfl ?_ | refine s_len tabOk rfl rfl rfl rfl ?_ | refine aw_true rfl ?_ | refine aw_false rfl ?_ | refine blk_exit_other rfl ?_ | refine s_arith tabOk rfl rfl rfl rfl (by simp only [InR]; omega) ?_ | ((first | ((fail_if_success refine s_told rfl rfl ?_); refine s_part rfl rfl rfl ?_ ?_) | refine aw_if rfl ?_ ?_) <;> intro hc <;> (first | replace hc := DecT.imp hc | simp only [decs] at hc | skip)) | refine s_index1n tabOk rfl rfl rfl rfl (by omega) ?_ | refine s_indexn tabOk rfl rfl rfl rfl (by omega) ?_ | refine s_index1 tabOk rfl rfl rfl rfl (by omega) (by omega) ?_ | refine sh_load tabOk (by assumption) rfl rfl rfl rfl (by repeat (first | exact List.Mem.head _ | apply List.Mem.tail)) (by rfl) (by rfl) ?_ | refine sh_loada tabOk (by assumption) rfl rfl rfl rfl (by repeat (first | exact List.Mem.head _ | apply List.Mem.tail)) (by rfl) ?_ | (refine sh_box (by assumption) rfl rfl rfl rfl rfl rfl ?_; intro _ _ _) | (refine sh_alloc tabOk (by assumption) rfl rfl rfl rfl rfl rfl ?_; intro _ _ _) | (refine sh_store tabOk (by assumption) rfl rfl rfl rfl rfl rfl (by repeat (first | exact Upd.here | apply Upd.there)) (by rfl) ?_; intro _ _) | (refine sh_lit tabOk (by assumption) rfl rfl rfl rfl rfl rfl rfl rfl rfl rfl rfl ?_; intro _ _ _) | refine sh_build tabOk rfl rfl rfl rfl rfl rfl ?_)
    refine retK_ret tabOk (congrArg Array.toList Tryz.results24) (by repeat (first | exact rv_nil | apply rv_tmp rfl rfl | apply rv_cellH (by assumption) rfl rfl rfl (by repeat (first | exact List.Mem.head _ | apply List.Mem.tail)) rfl)) ?_
    have e3 : decide (((cutB 44 t).length : Int) ≤ 256) = decide ((cutB 44 t).length ≤ 256) := by rw [decide_eq_decide]; omega
    exact ⟨some ⟨b, 0, none⟩, (cutB 44 t).length, by rw [e3, e]; rfl, by rw [e]; exact H1.row_sl (List.Mem.head _), H1.sub (by repeat (first | exact List.nil_sublist _ | refine List.Sublist.cons_cons _ ?_ | refine List.Sublist.cons _ ?_))⟩
theorem rdAll_iff {t : ByteArray} : rdAll t = true ↔ (rdT t).length ≤ 256 ∧ ∀ k, k < (rdT t).length → rdOk ((rdT t).getD k ⟨#[]⟩) = true := by
  unfold rdAll
  rw [Bool.and_eq_true, decide_eq_true_eq, List.all_eq_true]
  refine and_congr_right fun _ => ⟨fun h k hk => ?_, fun h w hw => ?_⟩
  · rw [List.getD_eq_getElem?_getD, List.getElem?_eq_getElem hk, Option.getD_some]
    exact h _ (List.getElem_mem hk)
  · obtain ⟨k, hk, rfl⟩ := List.getElem_of_mem hw
    have := h k hk
    rwa [List.getD_eq_getElem?_getD, List.getElem?_eq_getElem hk, Option.getD_some] at this
/-- what a text's reading hands back -/
def RdH (B : Nat) (W : World) (t : ByteArray) (r : Value) (W' : World) : Prop :=
  (rdAll t = false ∧ r = .tuple #[.slice none 0 0, .bool false] ∧ Hp B W W' []) ∨ (rdAll t = true ∧ ∃ a c, r = .tuple #[.slice a (rdT t).length c, .bool true] ∧ Hp B W W' [.row 47 1 (.slice a (rdT t).length c) (rdT t).length (((rdT t).map rdV).map (.float .f32))])
theorem RdH.bad {B : Nat} {W W' : World} {t : ByteArray} (h : rdAll t = false) (H : Hp B W W' []) : RdH B W t (.tuple #[.slice none 0 0, .bool false]) W' := .inl ⟨h, rfl, H⟩
theorem RdH.good {B : Nat} {W W' : World} {t : ByteArray} {a : Option Addr} {c : Nat} (h : rdAll t = true) (H : Hp B W W' [.row 47 1 (.slice a (rdT t).length c) (rdT t).length (((rdT t).map rdV).map (.float .f32))]) : RdH B W t (.tuple #[.slice a (rdT t).length c, .bool true]) W' := .inr ⟨h, a, c, rfl, H⟩
theorem rdAll_no {t : ByteArray} {k : Nat} (hk : k < (rdT t).length) (h : rdOk ((rdT t).getD k ⟨#[]⟩) = false) : rdAll t = false := by
  cases e : rdAll t
  · rfl
  · rw [(rdAll_iff.1 e).2 k hk] at h; cases h
theorem cutL_le (c : UInt8) : ∀ (l : List UInt8) (w : List UInt8), w ∈ cutL c l → w.length ≤ l.length
  | [], w, h => by simp [cutL] at h; rw [h]; exact Nat.le_refl _
  | b :: l, w, h => by
    unfold cutL at h
    split at h
    · rcases List.mem_cons.1 h with rfl | h
      · exact Nat.zero_le _
      · exact Nat.le_succ_of_le (cutL_le c l w h)
    · split at h
      · rename_i e
        exact absurd e (cutL_ne c l)
      · rename_i x y e
        rcases List.mem_cons.1 h with rfl | h
        · exact Nat.succ_le_succ (cutL_le c l x (by rw [e]; exact List.mem_cons_self))
        · exact Nat.le_succ_of_le (cutL_le c l w (by rw [e]; exact List.mem_cons_of_mem _ h))
theorem cutB_le {c : UInt8} {t w : ByteArray} (h : w ∈ cutB c t) : w.size ≤ t.size := by
  unfold cutB at h
  obtain ⟨l, hl, rfl⟩ := List.mem_map.1 h
  have := cutL_le c _ l hl
  rw [sz_len] at this
  rw [← sz_len]
  exact this
theorem cutB_size {t w : ByteArray} (h : w ∈ rdT t) : w.size ≤ t.size := by
  unfold rdT at h
  split at h
  · cases h
  · exact cutB_le h
set_option maxHeartbeats 1000000 in
theorem c_ReadNumbers (hG : LibG W) (hD : DbG W) (hE : ErG W) {t : ByteArray} (hs : t.size ≤ 1048576) (hB : B ≤ W.heap.size) :
    ACalls Tryz.prog B 12 [.string t] W (RdH B W t) := by
  have H0 : Hp B W W [] := Hp.new hB
  refine acalls_of Tryz.func12 rfl Tryz.ntmps12 (Nat.le_of_ble_eq_true rfl) ?_
  repeat' (first | refine s_pure tabOk rfl rfl rfl rfl ?_ | refine Stp.imp ?_ | refine aops_nil ?_ | refine aw_reg ?_ | refine aw_seq ?_ | refine s_pass rfl rfl rfl ?_ | refine s_len tabOk rfl rfl rfl rfl ?_ | refine aw_true rfl ?_ | refine aw_false rfl ?_ | refine blk_exit_other rfl ?_ | refine s_arith tabOk rfl rfl rfl rfl (by simp only [InR]; omega) ?_ | ((first | ((fail_if_success refine s_told rfl rfl ?_); refine s_part rfl rfl rfl ?_ ?_) | refine aw_if rfl ?_ ?_) <;> intro hc <;> (first | replace hc := DecT.imp hc | simp only [decs] at hc | skip)) | refine s_index1n tabOk rfl rfl rfl rfl (by omega) ?_ | refine s_indexn tabOk rfl rfl rfl rfl (by omega) ?_ | refine s_index1 tabOk rfl rfl rfl rfl (by omega) (by omega) ?_ | refine sh_load tabOk (by assumption) rfl rfl rfl rfl (by repeat (first | exact List.Mem.head _ | apply List.Mem.tail)) (by rfl) (by rfl) ?_ | refine sh_loada tabOk (by assumption) rfl rfl rfl rfl (by repeat (first | exact List.Mem.head _ | apply List.Mem.tail)) (by rfl) ?_ | (refine sh_box (by assumption) rfl rfl rfl rfl rfl rfl ?_; intro _ _ _) | (refine sh_alloc tabOk (by assumption) rfl rfl rfl rfl rfl rfl ?_; intro _ _ _) | (refine sh_store tabOk (by assumption) rfl rfl rfl rfl rfl rfl (by repeat (first | exact Upd.here | apply Upd.there)) (by rfl) ?_; intro _ _) | (refine sh_lit tabOk (by assumption) rfl rfl rfl rfl rfl rfl rfl rfl rfl rfl rfl ?_; intro _ _ _) | refine sh_build tabOk rfl rfl rfl rfl rfl rfl ?_)
  refine s_call rfl rfl rfl rfl ent24 (c_apart hG hs hB) ?_
  rintro _ W1 ⟨a, c, rfl, hv, q1⟩
  have hwz : ∀ k, ((rdT t).getD k ⟨#[]⟩).size ≤ 1048576 := fun k => by
    by_cases hk : k < (rdT t).length
    · refine Nat.le_trans (cutB_size (t := t) ?_) hs
      rw [List.getD_eq_getElem?_getD, List.getElem?_eq_getElem hk, Option.getD_some]
      exact List.getElem_mem hk
    · rw [List.getD_eq_getElem?_getD, List.getElem?_eq_none (by omega)]; exact Nat.zero_le _
  have hal := rdAll_iff (t := t)
  have hlen := rdT_len t
  have hD1 := hD.hp q1
  have hE1 := hE.hp q1
  have K1 : Hp B W1 W1 [] := Hp.new (Hp.size q1)
  have fin0 : ∀ {W' : World}, Hp B W1 W' [] → Hp B W W' [] := fun H => Hp.call0 q1 H
  have fin1 : ∀ {W' : World} {r : Res}, Hp B W1 W' [r] → Hp B W W' [r] := fun H => Hp.call1 q1 H
  clear q1 H0
  generalize hn : decide ((rdT t).length ≤ 256) = b5
  repeat' (first | refine s_pure tabOk rfl rfl rfl rfl ?_ | refine Stp.imp ?_ | refine aops_nil ?_ | refine aw_reg ?_ | refine aw_seq ?_ | refine s_pass rfl rfl rfl ?_ | refine s_len tabOk rfl rfl rfl rfl ?_ | refine aw_true rfl ?_ | refine aw_false rfl ?_ | refine blk_exit_other rfl ?_ | refine s_arith tabOk rfl rfl rfl rfl (by simp only [InR]; omega) ?_ | ((first | ((fail_if_success refine s_told rfl rfl ?_); refine s_part rfl rfl rfl ?_ ?_) | refine aw_if rfl ?_ ?_) <;> intro hc <;> (first | replace hc := DecT.imp hc | simp only [decs] at hc | skip)) | refine s_index1n tabOk rfl rfl rfl rfl (by omega) ?_ | refine s_indexn tabOk rfl rfl rfl rfl (by omega) ?_ | refine s_index1 tabOk rfl rfl rfl rfl (by omega) (by omega) ?_ | refine sh_load tabOk (by assumption) rfl rfl rfl rfl (by repeat (first | exact List.Mem.head _ | apply List.Mem.tail)) (by rfl) (by rfl) ?_ | refine sh_loada tabOk (by assumption) rfl rfl rfl rfl (by repeat (first | exact List.Mem.head _ | apply List.Mem.tail)) (by rfl) ?_ | (refine sh_box (by assumption) rfl rfl rfl rfl rfl rfl ?_; intro _ _ _) | (refine sh_alloc tabOk (by assumption) rfl rfl rfl rfl rfl rfl ?_; intro _ _ _) | (refine sh_store tabOk (by assumption) rfl rfl rfl rfl rfl rfl (by repeat (first | exact Upd.here | apply Upd.there)) (by rfl) ?_; intro _ _) | (refine sh_lit tabOk (by assumption) rfl rfl rfl rfl rfl rfl rfl rfl rfl rfl rfl ?_; intro _ _ _) | refine sh_build tabOk rfl rfl rfl rfl rfl rfl ?_)
  rename_i b0 W2 H2
  refine aw_loopH (fun x : Nat × Option Addr × Nat => [(19, .int .i64 x.1), (18, .int .i64 (rdT t).length), (17, .slice a (rdT t).length c), (6, .slice x.2.1 x.1 x.2.2), (5, .bool b5)])
    (fun x => [.row 47 1 (.slice x.2.1 x.1 x.2.2) x.1 ((((rdT t).take x.1).map rdV).map (.float .f32))]) (fun x => x.1 ≤ (rdT t).length ∧ ∀ k, k < x.1 → rdOk ((rdT t).getD k ⟨#[]⟩) = true) (fun x => (rdT t).length - x.1) (0, some ⟨b0, 0, none⟩, 0) ⟨Nat.zero_le _, fun k hk => absurd hk (Nat.not_lt_zero k)⟩ (by dsimp only; exact H2.picks (by repeat (first | exact Picks.nil | (apply Picks.cons; (repeat (first | exact Pick.here | apply Pick.there)))))) (by dsimp only; exact (by repeat (first | exact less_nil | refine less_cons rfl ?_))) ?_
  rintro ⟨i, ad, cp⟩ W3 ⟨hi, hall⟩ H3
  dsimp only at hi hall H3 ⊢
  by_cases hin : i < (rdT t).length
  · obtain ⟨b, off, rfl, hr⟩ := (hv.below (Hp.below H3)).read (by omega)
    repeat' (first | refine s_pure tabOk rfl rfl rfl rfl ?_ | refine Stp.imp ?_ | refine aops_nil ?_ | refine aw_reg ?_ | refine aw_seq ?_ | refine s_pass rfl rfl rfl ?_ | refine s_len tabOk rfl rfl rfl rfl ?_ | refine aw_true rfl ?_ | refine aw_false rfl ?_ | refine blk_exit_other rfl ?_ | refine s_arith tabOk rfl rfl rfl rfl (by simp only [InR]; omega) ?_ | ((first | ((fail_if_success refine s_told rfl rfl ?_); refine s_part rfl rfl rfl ?_ ?_) | refine aw_if rfl ?_ ?_) <;> intro hc <;> (first | replace hc := DecT.imp hc | simp only [decs] at hc | skip)) | refine s_index1n tabOk rfl rfl rfl rfl (by omega) ?_ | refine s_indexn tabOk rfl rfl rfl rfl (by omega) ?_ | refine s_index1 tabOk rfl rfl rfl rfl (by omega) (by omega) ?_ | refine sh_load tabOk (by assumption) rfl rfl rfl rfl (by repeat (first | exact List.Mem.head _ | apply List.Mem.tail)) (by rfl) (by rfl) ?_ | refine sh_loada tabOk (by assumption) rfl rfl rfl rfl (by repeat (first | exact List.Mem.head _ | apply List.Mem.tail)) (by rfl) ?_ | (refine sh_box (by assumption) rfl rfl rfl rfl rfl rfl ?_; intro _ _ _) | (refine sh_alloc tabOk (by assumption) rfl rfl rfl rfl rfl rfl ?_; intro _ _ _) | (refine sh_store tabOk (by assumption) rfl rfl rfl rfl rfl rfl (by repeat (first | exact Upd.here | apply Upd.there)) (by rfl) ?_; intro _ _) | (refine sh_lit tabOk (by assumption) rfl rfl rfl rfl rfl rfl rfl rfl rfl rfl rfl ?_; intro _ _ _) | refine sh_build tabOk rfl rfl rfl rfl rfl rfl ?_)
    all_goals try (exfalso; omega)
    refine sh_readT tabOk (f := Value.string) ⟨#[]⟩ rfl rfl rfl rfl hr rfl (by omega) ?_
    repeat' (first | refine s_pure tabOk rfl rfl rfl rfl ?_ | refine Stp.imp ?_ | refine aops_nil ?_ | refine aw_reg ?_ | refine aw_seq ?_ | refine s_pass rfl rfl rfl ?_ | refine s_len tabOk rfl rfl rfl rfl ?_ | refine aw_true rfl ?_ | refine aw_false rfl ?_ | refine blk_exit_other rfl ?_ | refine s_arith tabOk rfl rfl rfl rfl (by simp only [InR]; omega) ?_ | ((first | ((fail_if_success refine s_told rfl rfl ?_); refine s_part rfl rfl rfl ?_ ?_) | refine aw_if rfl ?_ ?_) <;> intro hc <;> (first | replace hc := DecT.imp hc | simp only [decs] at hc | skip)) | refine s_index1n tabOk rfl rfl rfl rfl (by omega) ?_ | refine s_indexn tabOk rfl rfl rfl rfl (by omega) ?_ | refine s_index1 tabOk rfl rfl rfl rfl (by omega) (by omega) ?_ | refine sh_load tabOk (by assumption) rfl rfl rfl rfl (by repeat (first | exact List.Mem.head _ | apply List.Mem.tail)) (by rfl) (by rfl) ?_ | refine sh_loada tabOk (by assumption) rfl rfl rfl rfl (by repeat (first | exact List.Mem.head _ | apply List.Mem.tail)) (by rfl) ?_ | (refine sh_box (by assumption) rfl rfl rfl rfl rfl rfl ?_; intro _ _ _) | (refine sh_alloc tabOk (by assumption) rfl rfl rfl rfl rfl rfl ?_; intro _ _ _) | (refine sh_store tabOk (by assumption) rfl rfl rfl rfl rfl rfl (by repeat (first | exact Upd.here | apply Upd.there)) (by rfl) ?_; intro _ _) | (refine sh_lit tabOk (by assumption) rfl rfl rfl rfl rfl rfl rfl rfl rfl rfl rfl ?_; intro _ _ _) | refine sh_build tabOk rfl rfl rfl rfl rfl rfl ?_)
    refine s_call rfl rfl rfl rfl ent25 (c_readDigits (hD1.hp H3) (hE1.hp H3) (hwz i) (Hp.size H3)) ?_
    rintro _ W4 ⟨⟨x, rfl, hx⟩, q4⟩
    have H4 := Hp.call0 H3 q4
    clear q4 H3
    cases b5
    · have hno : rdAll t = false := by
        cases e : rdAll t
        · rfl
        · rw [(decide_eq_true (hal.1 e).1)] at hn; cases hn
      repeat' (first | refine s_pure tabOk rfl rfl rfl rfl ?_ | refine Stp.imp ?_ | refine aops_nil ?_ | refine aw_reg ?_ | refine aw_seq ?_ | refine s_pass rfl rfl rfl ?_ | refine s_len tabOk rfl rfl rfl rfl ?_ | refine aw_true rfl ?_ | refine aw_false rfl ?_ | refine blk_exit_other rfl ?_ | refine s_arith tabOk rfl rfl rfl rfl (by simp only [InR]; omega) ?_ | ((first | ((fail_if_success refine s_told rfl rfl ?_); refine s_part rfl rfl rfl ?_ ?_) | refine aw_if rfl ?_ ?_) <;> intro hc <;> (first | replace hc := DecT.imp hc | simp only [decs] at hc | skip)) | refine s_index1n tabOk rfl rfl rfl rfl (by omega) ?_ | refine s_indexn tabOk rfl rfl rfl rfl (by omega) ?_ | refine s_index1 tabOk rfl rfl rfl rfl (by omega) (by omega) ?_ | refine sh_load tabOk (by assumption) rfl rfl rfl rfl (by repeat (first | exact List.Mem.head _ | apply List.Mem.tail)) (by rfl) (by rfl) ?_ | refine sh_loada tabOk (by assumption) rfl rfl rfl rfl (by repeat (first | exact List.Mem.head _ | apply List.Mem.tail)) (by rfl) ?_ | (refine sh_box (by assumption) rfl rfl rfl rfl rfl rfl ?_; intro _ _ _) | (refine sh_alloc tabOk (by assumption) rfl rfl rfl rfl rfl rfl ?_; intro _ _ _) | (refine sh_store tabOk (by assumption) rfl rfl rfl rfl rfl rfl (by repeat (first | exact Upd.here | apply Upd.there)) (by rfl) ?_; intro _ _) | (refine sh_lit tabOk (by assumption) rfl rfl rfl rfl rfl rfl rfl rfl rfl rfl rfl ?_; intro _ _ _) | refine sh_build tabOk rfl rfl rfl rfl rfl rfl ?_)
      refine retK_ret tabOk (congrArg Array.toList Tryz.results12) (by repeat (first | exact rv_nil | apply rv_tmp rfl rfl | apply rv_cellH (by assumption) rfl rfl rfl (by repeat (first | exact List.Mem.head _ | apply List.Mem.tail)) rfl)) ?_
      exact RdH.bad hno (fin0 (Hp.sub H4 (List.nil_sublist _)))
    cases hk : rdOk ((rdT t).getD i ⟨#[]⟩)
    · have hno := rdAll_no hin hk
      repeat' (first | refine s_pure tabOk rfl rfl rfl rfl ?_ | refine Stp.imp ?_ | refine aops_nil ?_ | refine aw_reg ?_ | refine aw_seq ?_ | refine s_pass rfl rfl rfl ?_ | refine s_len tabOk rfl rfl rfl rfl ?_ | refine aw_true rfl ?_ | refine aw_false rfl ?_ | refine blk_exit_other rfl ?_ | refine s_arith tabOk rfl rfl rfl rfl (by simp only [InR]; omega) ?_ | ((first | ((fail_if_success refine s_told rfl rfl ?_); refine s_part rfl rfl rfl ?_ ?_) | refine aw_if rfl ?_ ?_) <;> intro hc <;> (first | replace hc := DecT.imp hc | simp only [decs] at hc | skip)) | refine s_index1n tabOk rfl rfl rfl rfl (by omega) ?_ | refine s_indexn tabOk rfl rfl rfl rfl (by omega) ?_ | refine s_index1 tabOk rfl rfl rfl rfl (by omega) (by omega) ?_ | refine sh_load tabOk (by assumption) rfl rfl rfl rfl (by repeat (first | exact List.Mem.head _ | apply List.Mem.tail)) (by rfl) (by rfl) ?_ | refine sh_loada tabOk (by assumption) rfl rfl rfl rfl (by repeat (first | exact List.Mem.head _ | apply List.Mem.tail)) (by rfl) ?_ | (refine sh_box (by assumption) rfl rfl rfl rfl rfl rfl ?_; intro _ _ _) | (refine sh_alloc tabOk (by assumption) rfl rfl rfl rfl rfl rfl ?_; intro _ _ _) | (refine sh_store tabOk (by assumption) rfl rfl rfl rfl rfl rfl (by repeat (first | exact Upd.here | apply Upd.there)) (by rfl) ?_; intro _ _) | (refine sh_lit tabOk (by assumption) rfl rfl rfl rfl rfl rfl rfl rfl rfl rfl rfl ?_; intro _ _ _) | refine sh_build tabOk rfl rfl rfl rfl rfl rfl ?_)
      refine retK_ret tabOk (congrArg Array.toList Tryz.results12) (by repeat (first | exact rv_nil | apply rv_tmp rfl rfl | apply rv_cellH (by assumption) rfl rfl rfl (by repeat (first | exact List.Mem.head _ | apply List.Mem.tail)) rfl)) ?_
      exact RdH.bad hno (fin0 (Hp.sub H4 (List.nil_sublist _)))
    obtain rfl := hx hk
    repeat' (first | refine s_pure tabOk rfl rfl rfl rfl ?_ | refine Stp.imp ?_ | refine aops_nil ?_ | refine aw_reg ?_ | refine aw_seq ?_ | refine s_pass rfl rfl rfl ?_ | refine s_len tabOk rfl rfl rfl rfl ?_ | refine aw_true rfl ?_ | refine aw_false rfl ?_ | refine blk_exit_other rfl ?_ | refine s_arith tabOk rfl rfl rfl rfl (by simp only [InR]; omega) ?_ | ((first | ((fail_if_success refine s_told rfl rfl ?_); refine s_part rfl rfl rfl ?_ ?_) | refine aw_if rfl ?_ ?_) <;> intro hc <;> (first | replace hc := DecT.imp hc | simp only [decs] at hc | skip)) | refine s_index1n tabOk rfl rfl rfl rfl (by omega) ?_ | refine s_indexn tabOk rfl rfl rfl rfl (by omega) ?_ | refine s_index1 tabOk rfl rfl rfl rfl (by omega) (by omega) ?_ | refine sh_load tabOk (by assumption) rfl rfl rfl rfl (by repeat (first | exact List.Mem.head _ | apply List.Mem.tail)) (by rfl) (by rfl) ?_ | refine sh_loada tabOk (by assumption) rfl rfl rfl rfl (by repeat (first | exact List.Mem.head _ | apply List.Mem.tail)) (by rfl) ?_ | (refine sh_box (by assumption) rfl rfl rfl rfl rfl rfl ?_; intro _ _ _) | (refine sh_alloc tabOk (by assumption) rfl rfl rfl rfl rfl rfl ?_; intro _ _ _) | (refine sh_store tabOk (by assumption) rfl rfl rfl rfl rfl rfl (by repeat (first | exact Upd.here | apply Upd.there)) (by rfl) ?_; intro _ _) | (refine sh_lit tabOk (by assumption) rfl rfl rfl rfl rfl rfl rfl rfl rfl rfl rfl ?_; intro _ _ _) | refine sh_build tabOk rfl rfl rfl rfl rfl rfl ?_)
    refine sh_push tabOk (f := Value.float .f32) (y := rdV ((rdT t).getD i ⟨#[]⟩)) (ys := ((rdT t).take i).map rdV) (by assumption) rfl rfl rfl rfl rfl rfl rfl rfl (fun _ _ => (by repeat (first | exact Upd.here | apply Upd.there))) (by omega) ?_
    intro a7 c7 W7 H7
    rw [← map_take_succ rdV ⟨#[]⟩ hin] at H7
    repeat' (first | refine s_pure tabOk rfl rfl rfl rfl ?_ | refine Stp.imp ?_ | refine aops_nil ?_ | refine aw_reg ?_ | refine aw_seq ?_ | refine s_pass rfl rfl rfl ?_ | refine s_len tabOk rfl rfl rfl rfl ?_ | refine aw_true rfl ?_ | refine aw_false rfl ?_ | refine blk_exit_other rfl ?_ | refine s_arith tabOk rfl rfl rfl rfl (by simp only [InR]; omega) ?_ | ((first | ((fail_if_success refine s_told rfl rfl ?_); refine s_part rfl rfl rfl ?_ ?_) | refine aw_if rfl ?_ ?_) <;> intro hc <;> (first | replace hc := DecT.imp hc | simp only [decs] at hc | skip)) | refine s_index1n tabOk rfl rfl rfl rfl (by omega) ?_ | refine s_indexn tabOk rfl rfl rfl rfl (by omega) ?_ | refine s_index1 tabOk rfl rfl rfl rfl (by omega) (by omega) ?_ | refine sh_load tabOk (by assumption) rfl rfl rfl rfl (by repeat (first | exact List.Mem.head _ | apply List.Mem.tail)) (by rfl) (by rfl) ?_ | refine sh_loada tabOk (by assumption) rfl rfl rfl rfl (by repeat (first | exact List.Mem.head _ | apply List.Mem.tail)) (by rfl) ?_ | (refine sh_box (by assumption) rfl rfl rfl rfl rfl rfl ?_; intro _ _ _) | (refine sh_alloc tabOk (by assumption) rfl rfl rfl rfl rfl rfl ?_; intro _ _ _) | (refine sh_store tabOk (by assumption) rfl rfl rfl rfl rfl rfl (by repeat (first | exact Upd.here | apply Upd.there)) (by rfl) ?_; intro _ _) | (refine sh_lit tabOk (by assumption) rfl rfl rfl rfl rfl rfl rfl rfl rfl rfl rfl ?_; intro _ _ _) | refine sh_build tabOk rfl rfl rfl rfl rfl rfl ?_)
    refine rndh_next (i + 1, a7, c7) ⟨by dsimp only; omega, fun k h => ?_⟩ (by dsimp only; omega) (by dsimp only; exact (by repeat (first | exact less_nil | refine less_cons rfl ?_))) (Hp.picks (by assumption) (by repeat (first | exact Picks.nil | (apply Picks.cons; (repeat (first | exact Pick.here | apply Pick.there))))))
    dsimp only at h
    by_cases e : k = i
    · rw [e]; exact hk
    · exact hall k (by omega)
  · have hil : i = (rdT t).length := by omega
    subst hil
    rw [List.take_length] at H3
    cases b5
    · have hno : rdAll t = false := by
        cases e : rdAll t
        · rfl
        · rw [(decide_eq_true (hal.1 e).1)] at hn; cases hn
      repeat' (first | refine s_pure tabOk rfl rfl rfl rfl ?_ | refine Stp.imp ?_ | refine aops_nil ?_ | refine aw_reg ?_ | refine aw_seq ?_ | refine s_pass rfl rfl rfl ?_ | refine s_len tabOk rfl rfl rfl rfl ?_ | refine aw_true rfl ?_ | refine aw_false rfl ?_ | refine blk_exit_other rfl ?_ | refine s_arith tabOk rfl rfl rfl rfl (by simp only [InR]; omega) ?_ | ((first | ((fail_if_success refine s_told rfl rfl ?_); refine s_part rfl rfl rfl ?_ ?_) | refine aw_if rfl ?_ ?_) <;> intro hc <;> (first | replace hc := DecT.imp hc | simp only [decs] at hc | skip)) | refine s_index1n tabOk rfl rfl rfl rfl (by omega) ?_ | refine s_indexn tabOk rfl rfl rfl rfl (by omega) ?_ | refine s_index1 tabOk rfl rfl rfl rfl (by omega) (by omega) ?_ | refine sh_load tabOk (by assumption) rfl rfl rfl rfl (by repeat (first | exact List.Mem.head _ | apply List.Mem.tail)) (by rfl) (by rfl) ?_ | refine sh_loada tabOk (by assumption) rfl rfl rfl rfl (by repeat (first | exact List.Mem.head _ | apply List.Mem.tail)) (by rfl) ?_ | (refine sh_box (by assumption) rfl rfl rfl rfl rfl rfl ?_; intro _ _ _) | (refine sh_alloc tabOk (by assumption) rfl rfl rfl rfl rfl rfl ?_; intro _ _ _) | (refine sh_store tabOk (by assumption) rfl rfl rfl rfl rfl rfl (by repeat (first | exact Upd.here | apply Upd.there)) (by rfl) ?_; intro _ _) | (refine sh_lit tabOk (by assumption) rfl rfl rfl rfl rfl rfl rfl rfl rfl rfl rfl ?_; intro _ _ _) | refine sh_build tabOk rfl rfl rfl rfl rfl rfl ?_)
      all_goals try (exfalso; omega)
      refine retK_ret tabOk (congrArg Array.toList Tryz.results12) (by repeat (first | exact rv_nil | apply rv_tmp rfl rfl | apply rv_cellH (by assumption) rfl rfl rfl (by repeat (first | exact List.Mem.head _ | apply List.Mem.tail)) rfl)) ?_
      exact RdH.bad hno (fin0 (Hp.sub H3 (List.nil_sublist _)))
    · have hyes : rdAll t = true := hal.2 ⟨of_decide_eq_true hn, hall⟩
      repeat' (first | refine s_pure tabOk rfl rfl rfl rfl ?_ | refine Stp.imp ?_ | refine aops_nil ?_ | refine aw_reg ?_ | refine aw_seq ?_ | refine s_pass rfl rfl rfl ?_ | refine s_len tabOk rfl rfl rfl rfl ?_ | refine aw_true rfl ?_ | refine aw_false rfl ?_ | refine blk_exit_other rfl ?_ | refine s_arith tabOk rfl rfl rfl rfl (by simp only [InR]; omega) ?_ | ((first | ((fail_if_success refine s_told rfl rfl ?_); refine s_part rfl rfl rfl ?_ ?_) | refine aw_if rfl ?_ ?_) <;> intro hc <;> (first | replace hc := DecT.imp hc | simp only [decs] at hc | skip)) | refine s_index1n tabOk rfl rfl rfl rfl (by omega) ?_ | refine s_indexn tabOk rfl rfl rfl rfl (by omega) ?_ | refine s_index1 tabOk rfl rfl rfl rfl (by omega) (by omega) ?_ | refine sh_load tabOk (by assumption) rfl rfl rfl rfl (by repeat (first | exact List.Mem.head _ | apply List.Mem.tail)) (by rfl) (by rfl) ?_ | refine sh_loada tabOk (by assumption) rfl rfl rfl rfl (by repeat (first | exact List.Mem.head _ | apply List.Mem.tail)) (by rfl) ?_ | (refine sh_box (by assumption) rfl rfl rfl rfl rfl rfl ?_; intro _ _ _) | (refine sh_alloc tabOk (by assumption) rfl rfl rfl rfl rfl rfl ?_; intro _ _ _) | (refine sh_store tabOk (by assumption) rfl rfl rfl rfl rfl rfl (by repeat (first | exact Upd.here | apply Upd.there)) (by rfl) ?_; intro _ _) | (refine sh_lit tabOk (by assumption) rfl rfl rfl rfl rfl rfl rfl rfl rfl rfl rfl ?_; intro _ _ _) | refine sh_build tabOk rfl rfl rfl rfl rfl rfl ?_)
      all_goals try (exfalso; omega)
      refine retK_ret tabOk (congrArg Array.toList Tryz.results12) (by repeat (first | exact rv_nil | apply rv_tmp rfl rfl | apply rv_cellH (by assumption) rfl rfl rfl (by repeat (first | exact List.Mem.head _ | apply List.Mem.tail)) rfl)) ?_
      exact RdH.good hyes (fin1 (Hp.picks H3 (by repeat (first | exact Picks.nil | (apply Picks.cons; (repeat (first | exact Pick.here | apply Pick.there)))))))
end
end Go.Proofs.YthdnepjajhjmlaaGreatDoor
namespace Go.Proofs.YthdnepjajhjmlaaGreatDoor
set_option linter.unusedSimpArgs false
set_option linter.unusedVariables false
open Go Cn Go.RowKit
theorem hexN_snoc (c : UInt8) : ∀ (l : List UInt8) (a : Nat), hexN a (l ++ [c]) = hexN a l * 16 + lhd c
  | [], a => rfl
  | b :: l, a => by rw [List.cons_append, hexN, hexN_snoc c l, hexN]
theorem rd_step {w : ByteArray} {j : Nat} (hj : j < w.size) : ∃ c, bt w j = c.toNat ∧ w.data.toList.take (j + 1) = w.data.toList.take j ++ [c] := by
  have hl : j < w.data.toList.length := by rw [sz_len]; exact hj
  refine ⟨w.data.toList[j], ?_, ?_⟩
  · unfold bt; rw [List.getElem?_eq_getElem hl, Option.getD_some]
  · rw [List.take_add_one, List.getElem?_eq_getElem hl]; rfl
/-- a word read up to the j-th digit -/
def WdI (w : ByteArray) (j : Nat) (a : Int) : Prop := j ≤ 8 ∧ a = (hexN 0 (w.data.toList.take j) : Nat) ∧ (w.data.toList.take j).all lhx = true
theorem WdI.lt {w : ByteArray} {j : Nat} {a : Int} (h : WdI w j a) : 0 ≤ a ∧ a < 4294967296 := by
  obtain ⟨h1, h2, h3⟩ := h
  have h4 := hexN_lt _ h3
  have h5 : 16 ^ (w.data.toList.take j).length ≤ 16 ^ 8 := Nat.pow_le_pow_right (by omega) (by rw [List.length_take]; omega)
  have h6 : 16 ^ 8 = 4294967296 := by decide
  omega
theorem WdI.step {w : ByteArray} {j : Nat} {a : Int} {c : UInt8} (h : WdI w j a) (hj : j < 8) (hc : w.data.toList.take (j + 1) = w.data.toList.take j ++ [c]) (hx : lhx c = true) : WdI w (j + 1) (16 * a + lhd c) := by
  obtain ⟨h1, h2, h3⟩ := h
  refine ⟨by omega, ?_, ?_⟩
  · rw [hc, hexN_snoc, h2]; omega
  · rw [hc, List.all_append, h3, List.all_cons, hx]; rfl
theorem WdI.bad {w : ByteArray} {j : Nat} {c : UInt8} (hc : w.data.toList.take (j + 1) = w.data.toList.take j ++ [c]) (hx : lhx c = false) : rdOk w = false := by
  cases h : rdOk w
  · rfl
  · obtain ⟨-, h2, -⟩ := rdOk_iff.1 h
    rw [List.all_eq_true] at h2
    have hm : c ∈ w.data.toList := List.mem_of_mem_take (i := j + 1) (by rw [hc]; simp)
    rw [h2 c hm] at hx; cases hx
theorem WdI.all {w : ByteArray} {a : Int} (h : WdI w 8 a) (h8 : w.size = 8) : a = (rdW w : Nat) ∧ w.data.toList.all lhx = true := by
  obtain ⟨h1, h2, h3⟩ := h
  rw [List.take_of_length_le (by rw [sz_len]; omega)] at h2 h3
  exact ⟨h2, h3⟩
theorem lhx_dig {c : UInt8} (h : 48 ≤ c.toNat ∧ c.toNat ≤ 57) : lhx c = true ∧ (lhd c : Int) = (c.toNat : Int) - 48 := by
  refine ⟨by simp [lhx]; omega, ?_⟩
  unfold lhd; rw [if_pos h.2]; omega
theorem lhx_let {c : UInt8} (h : 97 ≤ c.toNat ∧ c.toNat ≤ 102) : lhx c = true ∧ (lhd c : Int) = (c.toNat : Int) - 97 + 10 := by
  refine ⟨by simp [lhx]; omega, ?_⟩
  unfold lhd; rw [if_neg (by omega)]; omega
theorem lhx_no {c : UInt8} (h1 : ¬ (48 ≤ c.toNat ∧ c.toNat ≤ 57)) (h2 : ¬ (97 ≤ c.toNat ∧ c.toNat ≤ 102)) : lhx c = false := by
  simp [lhx]; omega
section
variable {B : Nat} {A W W' : World} {L L' : List Res}
theorem c_l01From {x : Int} (hx : 0 ≤ x ∧ x < 4294967296) : ACalls Tryz.prog B 29 [.int .i64 x] W (fun r W' => r = .float .f32 (cb .f32 x.toNat) ∧ W' = W) := by
  refine acalls_of Tryz.func29 rfl Tryz.ntmps29 (Nat.le_of_ble_eq_true rfl) ?_
  repeat' (first
      | refine s_pure tabOk rfl rfl rfl rfl ?_
      | refine aops_nil ?_
      | refine thn_normal ?_
      | refine aw_seq ?_
      | refine aw_reg ?_
      | refine s_pass rfl rfl rfl ?_
      | refine s_len tabOk rfl rfl rfl rfl ?_
      | refine aw_true rfl ?_
      | refine aw_false rfl ?_
      | refine aw_block ?_
      | refine aw_skip ?_
      | refine aw_exit ?_
      | refine blk_exit ?_
      | refine blk_exit_other rfl ?_
      | refine blk_normal ?_
      | refine thn_exit ?_
      | refine thn_ret ?_
      | refine blk_ret ?_
      | refine rnd_ret ?_
      | refine rnd_exit ?_
      | refine aw_ret ?_
      | refine s_arith tabOk rfl rfl rfl rfl (by simp only [InR]; omega) ?_
      | ((fail_if_success refine s_told rfl rfl ?_); refine s_part rfl rfl rfl ?_ ?_ <;> intro hc <;> (first | replace hc := of_decide_eq_true hc | replace hc := of_decide_eq_false hc | replace hc := eq_of_beq hc | skip))
      | (refine aw_if rfl ?_ ?_ <;> intro hc <;> (first | replace hc := of_decide_eq_true hc | replace hc := of_decide_eq_false hc | replace hc := eq_of_beq hc | skip))
      | refine s_index1 tabOk rfl rfl rfl rfl (by omega) (by omega) ?_)
  refine s_ext rfl rfl rfl rfl (x_math_Float32frombits _) ?_
  rintro _ W ⟨rfl, rfl⟩
  repeat' (first
      | refine s_pure tabOk rfl rfl rfl rfl ?_
      | refine aops_nil ?_
      | refine thn_normal ?_
      | refine aw_seq ?_
      | refine aw_reg ?_
      | refine s_pass rfl rfl rfl ?_
      | refine s_len tabOk rfl rfl rfl rfl ?_
      | refine aw_true rfl ?_
      | refine aw_false rfl ?_
      | refine aw_block ?_
      | refine aw_skip ?_
      | refine aw_exit ?_
      | refine blk_exit ?_
      | refine blk_exit_other rfl ?_
      | refine blk_normal ?_
      | refine thn_exit ?_
      | refine thn_ret ?_
      | refine blk_ret ?_
      | refine rnd_ret ?_
      | refine rnd_exit ?_
      | refine aw_ret ?_
      | refine s_arith tabOk rfl rfl rfl rfl (by simp only [InR]; omega) ?_
      | ((fail_if_success refine s_told rfl rfl ?_); refine s_part rfl rfl rfl ?_ ?_ <;> intro hc <;> (first | replace hc := of_decide_eq_true hc | replace hc := of_decide_eq_false hc | replace hc := eq_of_beq hc | skip))
      | (refine aw_if rfl ?_ ?_ <;> intro hc <;> (first | replace hc := of_decide_eq_true hc | replace hc := of_decide_eq_false hc | replace hc := eq_of_beq hc | skip))
      | refine s_index1 tabOk rfl rfl rfl rfl (by omega) (by omega) ?_)
  refine retK_ret tabOk (congrArg Array.toList Tryz.results29) (by repeat (first | exact rv_nil | apply rv_tmp rfl rfl | apply rv_cellH (by assumption) rfl rfl rfl (by repeat (first | exact List.Mem.head _ | apply List.Mem.tail)) rfl)) ?_
  exact ⟨rfl, rfl⟩
set_option maxHeartbeats 4000000 in
theorem c_spec_l01NRead {t : ByteArray} (hs : t.size ≤ 1048576) (hB : B ≤ W.heap.size) :
    ACalls Tryz.prog B 19 [.string t] W (RdH B W t) := by
  have H0 : Hp B W W [] := Hp.new hB
  refine acalls_of Tryz.func19 rfl Tryz.ntmps19 (Nat.le_of_ble_eq_true rfl) ?_
  repeat' (first | refine s_pure tabOk rfl rfl rfl rfl ?_ | refine Stp.imp ?_ | refine aops_nil ?_ | refine aw_reg ?_ | refine aw_seq ?_ | refine s_pass rfl rfl rfl ?_ | refine s_len tabOk rfl rfl rfl rfl ?_ | refine aw_true rfl ?_ | refine aw_false rfl ?_ | refine blk_exit_other rfl ?_ | refine s_arith tabOk rfl rfl rfl rfl (by simp only [InR]; omega) ?_ | ((first | ((fail_if_success refine s_told rfl rfl ?_); refine s_part rfl rfl rfl ?_ ?_) | refine aw_if rfl ?_ ?_) <;> intro hc <;> (first | replace hc := DecT.imp hc | simp only [decs] at hc | skip)) | refine s_index1n tabOk rfl rfl rfl rfl (by omega) ?_ | refine s_indexn tabOk rfl rfl rfl rfl (by omega) ?_ | refine s_index1 tabOk rfl rfl rfl rfl (by omega) (by omega) ?_ | refine sh_load tabOk (by assumption) rfl rfl rfl rfl (by repeat (first | exact List.Mem.head _ | apply List.Mem.tail)) (by rfl) (by rfl) ?_ | refine sh_loada tabOk (by assumption) rfl rfl rfl rfl (by repeat (first | exact List.Mem.head _ | apply List.Mem.tail)) (by rfl) ?_ | (refine sh_box (by assumption) rfl rfl rfl rfl rfl rfl ?_; intro _ _ _) | (refine sh_alloc tabOk (by assumption) rfl rfl rfl rfl rfl rfl ?_; intro _ _ _) | (refine sh_store tabOk (by assumption) rfl rfl rfl rfl rfl rfl (by repeat (first | exact Upd.here | apply Upd.there)) (by rfl) ?_; intro _ _) | (refine sh_lit tabOk (by assumption) rfl rfl rfl rfl rfl rfl rfl rfl rfl rfl rfl ?_; intro _ _ _) | refine sh_build tabOk rfl rfl rfl rfl rfl rfl ?_)
  · rename_i b0 W1 H1
    have ht : t = none4 := bs_eq.1 hc
    have e : rdT t = [] := by unfold rdT; rw [if_pos ht]
    have hyes : rdAll t = true := by unfold rdAll; rw [e]; rfl
    refine retK_ret tabOk (congrArg Array.toList Tryz.results19) (by repeat (first | exact rv_nil | apply rv_tmp rfl rfl | apply rv_cellH (by assumption) rfl rfl rfl (by repeat (first | exact List.Mem.head _ | apply List.Mem.tail)) rfl)) ?_
    have := RdH.good (B := B) (W := W) (W' := W1) (a := some ⟨b0, 0, none⟩) (c := 0) hyes (by rw [e]; exact Hp.picks H1 (by repeat (first | exact Picks.nil | (apply Picks.cons; (repeat (first | exact Pick.here | apply Pick.there))))))
    rw [e] at this
    exact this
  rename_i b0 W1 H1
  have ht : t ≠ none4 := fun h => hc (bs_eq.2 h)
  have e : rdT t = cutB 44 t := by unfold rdT; rw [if_neg ht]
  refine s_call rfl rfl rfl rfl ent17 (c_spec_l01Cut (c := 44) rfl hs (Hp.size H1)) ?_
  rintro _ W2 ⟨a, n, rfl, q2⟩
  have H2 := Hp.call1 H1 q2
  clear q2 H1 H0
  rw [← e] at H2 ⊢
  have hwz := rdT_len t
  have hiff := rdAll_iff (t := t)
  repeat' (first | refine s_pure tabOk rfl rfl rfl rfl ?_ | refine Stp.imp ?_ | refine aops_nil ?_ | refine aw_reg ?_ | refine aw_seq ?_ | refine s_pass rfl rfl rfl ?_ | refine s_len tabOk rfl rfl rfl rfl ?_ | refine aw_true rfl ?_ | refine aw_false rfl ?_ | refine blk_exit_other rfl ?_ | refine s_arith tabOk rfl rfl rfl rfl (by simp only [InR]; omega) ?_ | ((first | ((fail_if_success refine s_told rfl rfl ?_); refine s_part rfl rfl rfl ?_ ?_) | refine aw_if rfl ?_ ?_) <;> intro hc <;> (first | replace hc := DecT.imp hc | simp only [decs] at hc | skip)) | refine s_index1n tabOk rfl rfl rfl rfl (by omega) ?_ | refine s_indexn tabOk rfl rfl rfl rfl (by omega) ?_ | refine s_index1 tabOk rfl rfl rfl rfl (by omega) (by omega) ?_ | refine sh_load tabOk (by assumption) rfl rfl rfl rfl (by repeat (first | exact List.Mem.head _ | apply List.Mem.tail)) (by rfl) (by rfl) ?_ | refine sh_loada tabOk (by assumption) rfl rfl rfl rfl (by repeat (first | exact List.Mem.head _ | apply List.Mem.tail)) (by rfl) ?_ | (refine sh_box (by assumption) rfl rfl rfl rfl rfl rfl ?_; intro _ _ _) | (refine sh_alloc tabOk (by assumption) rfl rfl rfl rfl rfl rfl ?_; intro _ _ _) | (refine sh_store tabOk (by assumption) rfl rfl rfl rfl rfl rfl (by repeat (first | exact Upd.here | apply Upd.there)) (by rfl) ?_; intro _ _) | (refine sh_lit tabOk (by assumption) rfl rfl rfl rfl rfl rfl rfl rfl rfl rfl rfl ?_; intro _ _ _) | refine sh_build tabOk rfl rfl rfl rfl rfl rfl ?_)
  · refine retK_ret tabOk (congrArg Array.toList Tryz.results19) (by repeat (first | exact rv_nil | apply rv_tmp rfl rfl | apply rv_cellH (by assumption) rfl rfl rfl (by repeat (first | exact List.Mem.head _ | apply List.Mem.tail)) rfl)) ?_
    refine RdH.bad ?_ (Hp.sub H2 (List.nil_sublist _))
    cases h : rdAll t
    · rfl
    · have := (hiff.1 h).1; omega
  have h256 : (rdT t).length ≤ 256 := by omega
  clear hc
  refine aw_loopH (fun x : Nat × Option Addr × Nat => [(6, .int .i64 x.1), (5, .slice a (rdT t).length n), (4, .slice x.2.1 x.1 x.2.2), (0, .string t)])
    (fun x => [.row 47 1 (.slice x.2.1 x.1 x.2.2) x.1 ((((rdT t).take x.1).map rdV).map (.float .f32)), sRow (.slice a (rdT t).length n) (rdT t)]) (fun x => x.1 ≤ (rdT t).length ∧ ∀ k, k < x.1 → rdOk ((rdT t).getD k ⟨#[]⟩) = true) (fun x => (rdT t).length - x.1) (0, some ⟨b0, 0, none⟩, 0) ⟨Nat.zero_le _, fun k hk => absurd hk (Nat.not_lt_zero k)⟩ (by dsimp only; exact H2.picks (by repeat (first | exact Picks.nil | (apply Picks.cons; (repeat (first | exact Pick.here | apply Pick.there)))))) (by dsimp only; exact (by repeat (first | exact less_nil | refine less_cons rfl ?_))) ?_
  rintro ⟨i, ad, cp⟩ W3 ⟨hi, hall⟩ H3
  dsimp only at hi hall H3 ⊢
  clear H2
  by_cases hin : i < (rdT t).length
  · obtain ⟨b, off, rfl, -⟩ := (H3.row_sl (List.Mem.tail _ (List.Mem.head _))).read (by omega)
    have hr := Hp.rdRow H3 (List.Mem.tail _ (List.Mem.head _)) (by omega)
    have hno := rdAll_no (t := t) (k := i) hin
    obtain ⟨w, hw⟩ : ∃ w, w = (rdT t).getD i ⟨#[]⟩ := ⟨_, rfl⟩
    rw [← hw] at hno
    repeat' (first | refine s_pure tabOk rfl rfl rfl rfl ?_ | refine Stp.imp ?_ | refine aops_nil ?_ | refine aw_reg ?_ | refine aw_seq ?_ | refine s_pass rfl rfl rfl ?_ | refine s_len tabOk rfl rfl rfl rfl ?_ | refine aw_true rfl ?_ | refine aw_false rfl ?_ | refine blk_exit_other rfl ?_ | refine s_arith tabOk rfl rfl rfl rfl (by simp only [InR]; omega) ?_ | ((first | ((fail_if_success refine s_told rfl rfl ?_); refine s_part rfl rfl rfl ?_ ?_) | refine aw_if rfl ?_ ?_) <;> intro hc <;> (first | replace hc := DecT.imp hc | simp only [decs] at hc | skip)) | refine s_index1n tabOk rfl rfl rfl rfl (by omega) ?_ | refine s_indexn tabOk rfl rfl rfl rfl (by omega) ?_ | refine s_index1 tabOk rfl rfl rfl rfl (by omega) (by omega) ?_ | refine sh_load tabOk (by assumption) rfl rfl rfl rfl (by repeat (first | exact List.Mem.head _ | apply List.Mem.tail)) (by rfl) (by rfl) ?_ | refine sh_loada tabOk (by assumption) rfl rfl rfl rfl (by repeat (first | exact List.Mem.head _ | apply List.Mem.tail)) (by rfl) ?_ | (refine sh_box (by assumption) rfl rfl rfl rfl rfl rfl ?_; intro _ _ _) | (refine sh_alloc tabOk (by assumption) rfl rfl rfl rfl rfl rfl ?_; intro _ _ _) | (refine sh_store tabOk (by assumption) rfl rfl rfl rfl rfl rfl (by repeat (first | exact Upd.here | apply Upd.there)) (by rfl) ?_; intro _ _) | (refine sh_lit tabOk (by assumption) rfl rfl rfl rfl rfl rfl rfl rfl rfl rfl rfl ?_; intro _ _ _) | refine sh_build tabOk rfl rfl rfl rfl rfl rfl ?_)
    all_goals try (exfalso; omega)
    refine sh_readT tabOk (f := Value.string) ⟨#[]⟩ rfl rfl rfl rfl hr rfl (by omega) ?_
    rw [← hw]
    repeat' (first | refine s_pure tabOk rfl rfl rfl rfl ?_ | refine Stp.imp ?_ | refine aops_nil ?_ | refine aw_reg ?_ | refine aw_seq ?_ | refine s_pass rfl rfl rfl ?_ | refine s_len tabOk rfl rfl rfl rfl ?_ | refine aw_true rfl ?_ | refine aw_false rfl ?_ | refine blk_exit_other rfl ?_ | refine s_arith tabOk rfl rfl rfl rfl (by simp only [InR]; omega) ?_ | ((first | ((fail_if_success refine s_told rfl rfl ?_); refine s_part rfl rfl rfl ?_ ?_) | refine aw_if rfl ?_ ?_) <;> intro hc <;> (first | replace hc := DecT.imp hc | simp only [decs] at hc | skip)) | refine s_index1n tabOk rfl rfl rfl rfl (by omega) ?_ | refine s_indexn tabOk rfl rfl rfl rfl (by omega) ?_ | refine s_index1 tabOk rfl rfl rfl rfl (by omega) (by omega) ?_ | refine sh_load tabOk (by assumption) rfl rfl rfl rfl (by repeat (first | exact List.Mem.head _ | apply List.Mem.tail)) (by rfl) (by rfl) ?_ | refine sh_loada tabOk (by assumption) rfl rfl rfl rfl (by repeat (first | exact List.Mem.head _ | apply List.Mem.tail)) (by rfl) ?_ | (refine sh_box (by assumption) rfl rfl rfl rfl rfl rfl ?_; intro _ _ _) | (refine sh_alloc tabOk (by assumption) rfl rfl rfl rfl rfl rfl ?_; intro _ _ _) | (refine sh_store tabOk (by assumption) rfl rfl rfl rfl rfl rfl (by repeat (first | exact Upd.here | apply Upd.there)) (by rfl) ?_; intro _ _) | (refine sh_lit tabOk (by assumption) rfl rfl rfl rfl rfl rfl rfl rfl rfl rfl rfl ?_; intro _ _ _) | refine sh_build tabOk rfl rfl rfl rfl rfl rfl ?_)
    · refine retK_ret tabOk (congrArg Array.toList Tryz.results19) (by repeat (first | exact rv_nil | apply rv_tmp rfl rfl | apply rv_cellH (by assumption) rfl rfl rfl (by repeat (first | exact List.Mem.head _ | apply List.Mem.tail)) rfl)) ?_
      refine RdH.bad (hno ?_) (Hp.sub H3 (List.nil_sublist _))
      cases h : rdOk w
      · rfl
      · have := (rdOk_iff.1 h).1; omega
    have h8 : w.size = 8 := by omega
    clear hc
    refine aw_loopH (fun x : Nat × Int => [(8, .int .i64 x.1), (7, .int .i64 x.2), (6, .int .i64 i), (5, .slice (some ⟨b, off, none⟩) (rdT t).length n), (4, .slice ad i cp), (0, .string t)])
      (fun _ => [.row 47 1 (.slice ad i cp) i ((((rdT t).take i).map rdV).map (.float .f32)), sRow (.slice (some ⟨b, off, none⟩) (rdT t).length n) (rdT t)]) (fun x => WdI w x.1 x.2) (fun x => 8 - x.1) (0, 0) ⟨by dsimp only; omega, rfl, rfl⟩ (by exact H3.picks (by repeat (first | exact Picks.nil | (apply Picks.cons; (repeat (first | exact Pick.here | apply Pick.there)))))) (by dsimp only; exact (by repeat (first | exact less_nil | refine less_cons rfl ?_))) ?_
    rintro ⟨j, acc⟩ W4 hI H4
    dsimp only at hI H4 ⊢
    obtain ⟨l0, l1⟩ := hI.lt
    have hj := hI.1
    by_cases hj8 : j < 8
    · obtain ⟨c, hc1, hc2⟩ := rd_step (w := w) (j := j) (by omega)
      have hr4 := Hp.rdRow H4 (List.Mem.tail _ (List.Mem.head _)) (by omega)
      have hst := fun hx => hI.step hj8 hc2 hx
      have hbd := fun hx => hno (WdI.bad hc2 hx)
      have hcl := c.toNat_lt
      clear hc2 hI H3 hr hall hiff
      repeat' (first | refine s_pure tabOk rfl rfl rfl rfl ?_ | refine Stp.imp ?_ | refine aops_nil ?_ | refine aw_reg ?_ | refine aw_seq ?_ | refine s_pass rfl rfl rfl ?_ | refine s_len tabOk rfl rfl rfl rfl ?_ | refine aw_true rfl ?_ | refine aw_false rfl ?_ | refine blk_exit_other rfl ?_ | refine s_arith tabOk rfl rfl rfl rfl (by simp only [InR]; omega) ?_ | ((first | ((fail_if_success refine s_told rfl rfl ?_); refine s_part rfl rfl rfl ?_ ?_) | refine aw_if rfl ?_ ?_) <;> intro hc <;> (first | replace hc := DecT.imp hc | simp only [decs] at hc | skip)) | refine s_index1n tabOk rfl rfl rfl rfl (by omega) ?_ | refine s_indexn tabOk rfl rfl rfl rfl (by omega) ?_ | refine s_index1 tabOk rfl rfl rfl rfl (by omega) (by omega) ?_ | refine sh_load tabOk (by assumption) rfl rfl rfl rfl (by repeat (first | exact List.Mem.head _ | apply List.Mem.tail)) (by rfl) (by rfl) ?_ | refine sh_loada tabOk (by assumption) rfl rfl rfl rfl (by repeat (first | exact List.Mem.head _ | apply List.Mem.tail)) (by rfl) ?_ | (refine sh_box (by assumption) rfl rfl rfl rfl rfl rfl ?_; intro _ _ _) | (refine sh_alloc tabOk (by assumption) rfl rfl rfl rfl rfl rfl ?_; intro _ _ _) | (refine sh_store tabOk (by assumption) rfl rfl rfl rfl rfl rfl (by repeat (first | exact Upd.here | apply Upd.there)) (by rfl) ?_; intro _ _) | (refine sh_lit tabOk (by assumption) rfl rfl rfl rfl rfl rfl rfl rfl rfl rfl rfl ?_; intro _ _ _) | refine sh_build tabOk rfl rfl rfl rfl rfl rfl ?_)
      all_goals try (exfalso; omega)
      refine sh_readT tabOk (f := Value.string) ⟨#[]⟩ rfl rfl rfl rfl hr4 rfl (by omega) ?_
      rw [← hw]
      repeat' (first | refine s_pure tabOk rfl rfl rfl rfl ?_ | refine Stp.imp ?_ | refine aops_nil ?_ | refine aw_reg ?_ | refine aw_seq ?_ | refine s_pass rfl rfl rfl ?_ | refine s_len tabOk rfl rfl rfl rfl ?_ | refine aw_true rfl ?_ | refine aw_false rfl ?_ | refine blk_exit_other rfl ?_ | refine s_arith tabOk rfl rfl rfl rfl (by simp only [InR]; omega) ?_ | ((first | ((fail_if_success refine s_told rfl rfl ?_); refine s_part rfl rfl rfl ?_ ?_) | refine aw_if rfl ?_ ?_) <;> intro hc <;> (first | replace hc := DecT.imp hc | simp only [decs] at hc | skip)) | refine s_index1n tabOk rfl rfl rfl rfl (by omega) ?_ | refine s_indexn tabOk rfl rfl rfl rfl (by omega) ?_ | refine s_index1 tabOk rfl rfl rfl rfl (by omega) (by omega) ?_ | refine sh_load tabOk (by assumption) rfl rfl rfl rfl (by repeat (first | exact List.Mem.head _ | apply List.Mem.tail)) (by rfl) (by rfl) ?_ | refine sh_loada tabOk (by assumption) rfl rfl rfl rfl (by repeat (first | exact List.Mem.head _ | apply List.Mem.tail)) (by rfl) ?_ | (refine sh_box (by assumption) rfl rfl rfl rfl rfl rfl ?_; intro _ _ _) | (refine sh_alloc tabOk (by assumption) rfl rfl rfl rfl rfl rfl ?_; intro _ _ _) | (refine sh_store tabOk (by assumption) rfl rfl rfl rfl rfl rfl (by repeat (first | exact Upd.here | apply Upd.there)) (by rfl) ?_; intro _ _) | (refine sh_lit tabOk (by assumption) rfl rfl rfl rfl rfl rfl rfl rfl rfl rfl rfl ?_; intro _ _ _) | refine sh_build tabOk rfl rfl rfl rfl rfl rfl ?_)
      refine s_byte tabOk rfl rfl rfl rfl (by omega) (by omega) ?_
      rw [Int.toNat_natCast, hc1]
      generalize hcn : c.toNat = m at *
      by_cases hd : 48 ≤ m ∧ m ≤ 57
      · obtain ⟨g1, g2⟩ := lhx_dig (c := c) (by omega)
        have hst := hst g1
        rw [g2, hcn] at hst
        clear hbd
        repeat' (first | refine s_pure tabOk rfl rfl rfl rfl ?_ | refine Stp.imp ?_ | refine aops_nil ?_ | refine aw_reg ?_ | refine aw_seq ?_ | refine s_pass rfl rfl rfl ?_ | refine s_len tabOk rfl rfl rfl rfl ?_ | refine aw_true rfl ?_ | refine aw_false rfl ?_ | refine blk_exit_other rfl ?_ | refine s_arith tabOk rfl rfl rfl rfl (by simp only [InR]; omega) ?_ | ((first | ((fail_if_success refine s_told rfl rfl ?_); refine s_part rfl rfl rfl ?_ ?_) | refine aw_if rfl ?_ ?_) <;> intro hc <;> (first | replace hc := DecT.imp hc | simp only [decs] at hc | skip)) | refine s_index1n tabOk rfl rfl rfl rfl (by omega) ?_ | refine s_indexn tabOk rfl rfl rfl rfl (by omega) ?_ | refine s_index1 tabOk rfl rfl rfl rfl (by omega) (by omega) ?_ | refine sh_load tabOk (by assumption) rfl rfl rfl rfl (by repeat (first | exact List.Mem.head _ | apply List.Mem.tail)) (by rfl) (by rfl) ?_ | refine sh_loada tabOk (by assumption) rfl rfl rfl rfl (by repeat (first | exact List.Mem.head _ | apply List.Mem.tail)) (by rfl) ?_ | (refine sh_box (by assumption) rfl rfl rfl rfl rfl rfl ?_; intro _ _ _) | (refine sh_alloc tabOk (by assumption) rfl rfl rfl rfl rfl rfl ?_; intro _ _ _) | (refine sh_store tabOk (by assumption) rfl rfl rfl rfl rfl rfl (by repeat (first | exact Upd.here | apply Upd.there)) (by rfl) ?_; intro _ _) | (refine sh_lit tabOk (by assumption) rfl rfl rfl rfl rfl rfl rfl rfl rfl rfl rfl ?_; intro _ _ _) | refine sh_build tabOk rfl rfl rfl rfl rfl rfl ?_)
        all_goals try (exfalso; omega)
        exact rndh_next (j + 1, 16 * acc + ((m : Int) - 48)) hst (by dsimp only; omega) (by dsimp only; exact (by repeat (first | exact less_nil | refine less_cons rfl ?_))) (Hp.picks H4 (by repeat (first | exact Picks.nil | (apply Picks.cons; (repeat (first | exact Pick.here | apply Pick.there))))))
      by_cases hx : 97 ≤ m ∧ m ≤ 102
      · obtain ⟨g1, g2⟩ := lhx_let (c := c) (by omega)
        have hst := hst g1
        rw [g2, hcn] at hst
        clear hbd
        repeat' (first | refine s_pure tabOk rfl rfl rfl rfl ?_ | refine Stp.imp ?_ | refine aops_nil ?_ | refine aw_reg ?_ | refine aw_seq ?_ | refine s_pass rfl rfl rfl ?_ | refine s_len tabOk rfl rfl rfl rfl ?_ | refine aw_true rfl ?_ | refine aw_false rfl ?_ | refine blk_exit_other rfl ?_ | refine s_arith tabOk rfl rfl rfl rfl (by simp only [InR]; omega) ?_ | ((first | ((fail_if_success refine s_told rfl rfl ?_); refine s_part rfl rfl rfl ?_ ?_) | refine aw_if rfl ?_ ?_) <;> intro hc <;> (first | replace hc := DecT.imp hc | simp only [decs] at hc | skip)) | refine s_index1n tabOk rfl rfl rfl rfl (by omega) ?_ | refine s_indexn tabOk rfl rfl rfl rfl (by omega) ?_ | refine s_index1 tabOk rfl rfl rfl rfl (by omega) (by omega) ?_ | refine sh_load tabOk (by assumption) rfl rfl rfl rfl (by repeat (first | exact List.Mem.head _ | apply List.Mem.tail)) (by rfl) (by rfl) ?_ | refine sh_loada tabOk (by assumption) rfl rfl rfl rfl (by repeat (first | exact List.Mem.head _ | apply List.Mem.tail)) (by rfl) ?_ | (refine sh_box (by assumption) rfl rfl rfl rfl rfl rfl ?_; intro _ _ _) | (refine sh_alloc tabOk (by assumption) rfl rfl rfl rfl rfl rfl ?_; intro _ _ _) | (refine sh_store tabOk (by assumption) rfl rfl rfl rfl rfl rfl (by repeat (first | exact Upd.here | apply Upd.there)) (by rfl) ?_; intro _ _) | (refine sh_lit tabOk (by assumption) rfl rfl rfl rfl rfl rfl rfl rfl rfl rfl rfl ?_; intro _ _ _) | refine sh_build tabOk rfl rfl rfl rfl rfl rfl ?_)
        all_goals try (exfalso; omega)
        exact rndh_next (j + 1, 16 * acc + ((m : Int) - 97 + 10)) hst (by dsimp only; omega) (by dsimp only; exact (by repeat (first | exact less_nil | refine less_cons rfl ?_))) (Hp.picks H4 (by repeat (first | exact Picks.nil | (apply Picks.cons; (repeat (first | exact Pick.here | apply Pick.there))))))
      · have hbd := hbd (lhx_no (c := c) (by omega) (by omega))
        clear hst
        repeat' (first | refine s_pure tabOk rfl rfl rfl rfl ?_ | refine Stp.imp ?_ | refine aops_nil ?_ | refine aw_reg ?_ | refine aw_seq ?_ | refine s_pass rfl rfl rfl ?_ | refine s_len tabOk rfl rfl rfl rfl ?_ | refine aw_true rfl ?_ | refine aw_false rfl ?_ | refine blk_exit_other rfl ?_ | refine s_arith tabOk rfl rfl rfl rfl (by simp only [InR]; omega) ?_ | ((first | ((fail_if_success refine s_told rfl rfl ?_); refine s_part rfl rfl rfl ?_ ?_) | refine aw_if rfl ?_ ?_) <;> intro hc <;> (first | replace hc := DecT.imp hc | simp only [decs] at hc | skip)) | refine s_index1n tabOk rfl rfl rfl rfl (by omega) ?_ | refine s_indexn tabOk rfl rfl rfl rfl (by omega) ?_ | refine s_index1 tabOk rfl rfl rfl rfl (by omega) (by omega) ?_ | refine sh_load tabOk (by assumption) rfl rfl rfl rfl (by repeat (first | exact List.Mem.head _ | apply List.Mem.tail)) (by rfl) (by rfl) ?_ | refine sh_loada tabOk (by assumption) rfl rfl rfl rfl (by repeat (first | exact List.Mem.head _ | apply List.Mem.tail)) (by rfl) ?_ | (refine sh_box (by assumption) rfl rfl rfl rfl rfl rfl ?_; intro _ _ _) | (refine sh_alloc tabOk (by assumption) rfl rfl rfl rfl rfl rfl ?_; intro _ _ _) | (refine sh_store tabOk (by assumption) rfl rfl rfl rfl rfl rfl (by repeat (first | exact Upd.here | apply Upd.there)) (by rfl) ?_; intro _ _) | (refine sh_lit tabOk (by assumption) rfl rfl rfl rfl rfl rfl rfl rfl rfl rfl rfl ?_; intro _ _ _) | refine sh_build tabOk rfl rfl rfl rfl rfl rfl ?_)
        all_goals try (exfalso; omega)
        all_goals refine retK_ret tabOk (congrArg Array.toList Tryz.results19) (by repeat (first | exact rv_nil | apply rv_tmp rfl rfl | apply rv_cellH (by assumption) rfl rfl rfl (by repeat (first | exact List.Mem.head _ | apply List.Mem.tail)) rfl)) ?_
        all_goals exact RdH.bad hbd (Hp.sub H4 (List.nil_sublist _))
    · obtain rfl : j = 8 := by omega
      obtain ⟨rfl, ha⟩ := hI.all h8
      have hlt : rdW w < 4294967296 := by omega
      have hcl := cb_lt hlt
      have hwd := wd_word (x := rdV w) hcl
      have hok := rdOk_iff (w := w)
      clear hI hr H3
      repeat' (first | refine s_pure tabOk rfl rfl rfl rfl ?_ | refine Stp.imp ?_ | refine aops_nil ?_ | refine aw_reg ?_ | refine aw_seq ?_ | refine s_pass rfl rfl rfl ?_ | refine s_len tabOk rfl rfl rfl rfl ?_ | refine aw_true rfl ?_ | refine aw_false rfl ?_ | refine blk_exit_other rfl ?_ | refine s_arith tabOk rfl rfl rfl rfl (by simp only [InR]; omega) ?_ | ((first | ((fail_if_success refine s_told rfl rfl ?_); refine s_part rfl rfl rfl ?_ ?_) | refine aw_if rfl ?_ ?_) <;> intro hc <;> (first | replace hc := DecT.imp hc | simp only [decs] at hc | skip)) | refine s_index1n tabOk rfl rfl rfl rfl (by omega) ?_ | refine s_indexn tabOk rfl rfl rfl rfl (by omega) ?_ | refine s_index1 tabOk rfl rfl rfl rfl (by omega) (by omega) ?_ | refine sh_load tabOk (by assumption) rfl rfl rfl rfl (by repeat (first | exact List.Mem.head _ | apply List.Mem.tail)) (by rfl) (by rfl) ?_ | refine sh_loada tabOk (by assumption) rfl rfl rfl rfl (by repeat (first | exact List.Mem.head _ | apply List.Mem.tail)) (by rfl) ?_ | (refine sh_box (by assumption) rfl rfl rfl rfl rfl rfl ?_; intro _ _ _) | (refine sh_alloc tabOk (by assumption) rfl rfl rfl rfl rfl rfl ?_; intro _ _ _) | (refine sh_store tabOk (by assumption) rfl rfl rfl rfl rfl rfl (by repeat (first | exact Upd.here | apply Upd.there)) (by rfl) ?_; intro _ _) | (refine sh_lit tabOk (by assumption) rfl rfl rfl rfl rfl rfl rfl rfl rfl rfl rfl ?_; intro _ _ _) | refine sh_build tabOk rfl rfl rfl rfl rfl rfl ?_)
      all_goals try (exfalso; omega)
      refine s_call rfl rfl rfl rfl ent29 (c_l01From ⟨by omega, by omega⟩) ?_
      rintro _ W9 ⟨rfl, e9⟩
      obtain rfl := e9.symm
      rw [Int.toNat_natCast, show cb .f32 (rdW w) = rdV w from rfl]
      repeat' (first | refine s_pure tabOk rfl rfl rfl rfl ?_ | refine Stp.imp ?_ | refine aops_nil ?_ | refine aw_reg ?_ | refine aw_seq ?_ | refine s_pass rfl rfl rfl ?_ | refine s_len tabOk rfl rfl rfl rfl ?_ | refine aw_true rfl ?_ | refine aw_false rfl ?_ | refine blk_exit_other rfl ?_ | refine s_arith tabOk rfl rfl rfl rfl (by simp only [InR]; omega) ?_ | ((first | ((fail_if_success refine s_told rfl rfl ?_); refine s_part rfl rfl rfl ?_ ?_) | refine aw_if rfl ?_ ?_) <;> intro hc <;> (first | replace hc := DecT.imp hc | simp only [decs] at hc | skip)) | refine s_index1n tabOk rfl rfl rfl rfl (by omega) ?_ | refine s_indexn tabOk rfl rfl rfl rfl (by omega) ?_ | refine s_index1 tabOk rfl rfl rfl rfl (by omega) (by omega) ?_ | refine sh_load tabOk (by assumption) rfl rfl rfl rfl (by repeat (first | exact List.Mem.head _ | apply List.Mem.tail)) (by rfl) (by rfl) ?_ | refine sh_loada tabOk (by assumption) rfl rfl rfl rfl (by repeat (first | exact List.Mem.head _ | apply List.Mem.tail)) (by rfl) ?_ | (refine sh_box (by assumption) rfl rfl rfl rfl rfl rfl ?_; intro _ _ _) | (refine sh_alloc tabOk (by assumption) rfl rfl rfl rfl rfl rfl ?_; intro _ _ _) | (refine sh_store tabOk (by assumption) rfl rfl rfl rfl rfl rfl (by repeat (first | exact Upd.here | apply Upd.there)) (by rfl) ?_; intro _ _) | (refine sh_lit tabOk (by assumption) rfl rfl rfl rfl rfl rfl rfl rfl rfl rfl rfl ?_; intro _ _ _) | refine sh_build tabOk rfl rfl rfl rfl rfl rfl ?_)
      refine s_call rfl rfl rfl rfl ent30 (c_spec_l01Bits (x := rdV w) hcl) ?_
      rintro _ W9 ⟨rfl, e9⟩
      obtain rfl := e9.symm
      rw [hwd.1]
      repeat' (first | refine s_pure tabOk rfl rfl rfl rfl ?_ | refine Stp.imp ?_ | refine aops_nil ?_ | refine aw_reg ?_ | refine aw_seq ?_ | refine s_pass rfl rfl rfl ?_ | refine s_len tabOk rfl rfl rfl rfl ?_ | refine aw_true rfl ?_ | refine aw_false rfl ?_ | refine blk_exit_other rfl ?_ | refine s_arith tabOk rfl rfl rfl rfl (by simp only [InR]; omega) ?_ | ((first | ((fail_if_success refine s_told rfl rfl ?_); refine s_part rfl rfl rfl ?_ ?_) | refine aw_if rfl ?_ ?_) <;> intro hc <;> (first | replace hc := DecT.imp hc | simp only [decs] at hc | skip)) | refine s_index1n tabOk rfl rfl rfl rfl (by omega) ?_ | refine s_indexn tabOk rfl rfl rfl rfl (by omega) ?_ | refine s_index1 tabOk rfl rfl rfl rfl (by omega) (by omega) ?_ | refine sh_load tabOk (by assumption) rfl rfl rfl rfl (by repeat (first | exact List.Mem.head _ | apply List.Mem.tail)) (by rfl) (by rfl) ?_ | refine sh_loada tabOk (by assumption) rfl rfl rfl rfl (by repeat (first | exact List.Mem.head _ | apply List.Mem.tail)) (by rfl) ?_ | (refine sh_box (by assumption) rfl rfl rfl rfl rfl rfl ?_; intro _ _ _) | (refine sh_alloc tabOk (by assumption) rfl rfl rfl rfl rfl rfl ?_; intro _ _ _) | (refine sh_store tabOk (by assumption) rfl rfl rfl rfl rfl rfl (by repeat (first | exact Upd.here | apply Upd.there)) (by rfl) ?_; intro _ _) | (refine sh_lit tabOk (by assumption) rfl rfl rfl rfl rfl rfl rfl rfl rfl rfl rfl ?_; intro _ _ _) | refine sh_build tabOk rfl rfl rfl rfl rfl rfl ?_)
      · refine retK_ret tabOk (congrArg Array.toList Tryz.results19) (by repeat (first | exact rv_nil | apply rv_tmp rfl rfl | apply rv_cellH (by assumption) rfl rfl rfl (by repeat (first | exact List.Mem.head _ | apply List.Mem.tail)) rfl)) ?_
        refine RdH.bad (hno ?_) (Hp.sub H4 (List.nil_sublist _))
        cases h : rdOk w
        · rfl
        · have := (hok.1 h).2.2; omega
      have hk : rdOk w = true := hok.2 ⟨h8, ha, by omega⟩
      refine sh_push tabOk (f := Value.float .f32) (y := rdV w) (ys := ((rdT t).take i).map rdV) (by assumption) rfl rfl rfl rfl rfl rfl rfl rfl (fun _ _ => (by repeat (first | exact Upd.here | apply Upd.there))) (by omega) ?_
      intro a7 c7 W7 H7
      rw [hw, ← map_take_succ rdV ⟨#[]⟩ hin] at H7
      repeat' (first | refine s_pure tabOk rfl rfl rfl rfl ?_ | refine Stp.imp ?_ | refine aops_nil ?_ | refine aw_reg ?_ | refine aw_seq ?_ | refine s_pass rfl rfl rfl ?_ | refine s_len tabOk rfl rfl rfl rfl ?_ | refine aw_true rfl ?_ | refine aw_false rfl ?_ | refine blk_exit_other rfl ?_ | refine s_arith tabOk rfl rfl rfl rfl (by simp only [InR]; omega) ?_ | ((first | ((fail_if_success refine s_told rfl rfl ?_); refine s_part rfl rfl rfl ?_ ?_) | refine aw_if rfl ?_ ?_) <;> intro hc <;> (first | replace hc := DecT.imp hc | simp only [decs] at hc | skip)) | refine s_index1n tabOk rfl rfl rfl rfl (by omega) ?_ | refine s_indexn tabOk rfl rfl rfl rfl (by omega) ?_ | refine s_index1 tabOk rfl rfl rfl rfl (by omega) (by omega) ?_ | refine sh_load tabOk (by assumption) rfl rfl rfl rfl (by repeat (first | exact List.Mem.head _ | apply List.Mem.tail)) (by rfl) (by rfl) ?_ | refine sh_loada tabOk (by assumption) rfl rfl rfl rfl (by repeat (first | exact List.Mem.head _ | apply List.Mem.tail)) (by rfl) ?_ | (refine sh_box (by assumption) rfl rfl rfl rfl rfl rfl ?_; intro _ _ _) | (refine sh_alloc tabOk (by assumption) rfl rfl rfl rfl rfl rfl ?_; intro _ _ _) | (refine sh_store tabOk (by assumption) rfl rfl rfl rfl rfl rfl (by repeat (first | exact Upd.here | apply Upd.there)) (by rfl) ?_; intro _ _) | (refine sh_lit tabOk (by assumption) rfl rfl rfl rfl rfl rfl rfl rfl rfl rfl rfl ?_; intro _ _ _) | refine sh_build tabOk rfl rfl rfl rfl rfl rfl ?_)
      refine rndh_next (i + 1, a7, c7) ⟨by dsimp only; omega, fun k h => ?_⟩ (by dsimp only; omega) (by dsimp only; exact (by repeat (first | exact less_nil | refine less_cons rfl ?_))) (Hp.picks (by assumption) (by repeat (first | exact Picks.nil | (apply Picks.cons; (repeat (first | exact Pick.here | apply Pick.there))))))
      dsimp only at h
      by_cases e2 : k = i
      · rw [e2, ← hw]; exact hk
      · exact hall k (by omega)
  · have hil : i = (rdT t).length := by omega
    subst hil
    rw [List.take_length] at H3
    have hyes : rdAll t = true := hiff.2 ⟨h256, hall⟩
    repeat' (first | refine s_pure tabOk rfl rfl rfl rfl ?_ | refine Stp.imp ?_ | refine aops_nil ?_ | refine aw_reg ?_ | refine aw_seq ?_ | refine s_pass rfl rfl rfl ?_ | refine s_len tabOk rfl rfl rfl rfl ?_ | refine aw_true rfl ?_ | refine aw_false rfl ?_ | refine blk_exit_other rfl ?_ | refine s_arith tabOk rfl rfl rfl rfl (by simp only [InR]; omega) ?_ | ((first | ((fail_if_success refine s_told rfl rfl ?_); refine s_part rfl rfl rfl ?_ ?_) | refine aw_if rfl ?_ ?_) <;> intro hc <;> (first | replace hc := DecT.imp hc | simp only [decs] at hc | skip)) | refine s_index1n tabOk rfl rfl rfl rfl (by omega) ?_ | refine s_indexn tabOk rfl rfl rfl rfl (by omega) ?_ | refine s_index1 tabOk rfl rfl rfl rfl (by omega) (by omega) ?_ | refine sh_load tabOk (by assumption) rfl rfl rfl rfl (by repeat (first | exact List.Mem.head _ | apply List.Mem.tail)) (by rfl) (by rfl) ?_ | refine sh_loada tabOk (by assumption) rfl rfl rfl rfl (by repeat (first | exact List.Mem.head _ | apply List.Mem.tail)) (by rfl) ?_ | (refine sh_box (by assumption) rfl rfl rfl rfl rfl rfl ?_; intro _ _ _) | (refine sh_alloc tabOk (by assumption) rfl rfl rfl rfl rfl rfl ?_; intro _ _ _) | (refine sh_store tabOk (by assumption) rfl rfl rfl rfl rfl rfl (by repeat (first | exact Upd.here | apply Upd.there)) (by rfl) ?_; intro _ _) | (refine sh_lit tabOk (by assumption) rfl rfl rfl rfl rfl rfl rfl rfl rfl rfl rfl ?_; intro _ _ _) | refine sh_build tabOk rfl rfl rfl rfl rfl rfl ?_)
    all_goals try (exfalso; omega)
    refine retK_ret tabOk (congrArg Array.toList Tryz.results19) (by repeat (first | exact rv_nil | apply rv_tmp rfl rfl | apply rv_cellH (by assumption) rfl rfl rfl (by repeat (first | exact List.Mem.head _ | apply List.Mem.tail)) rfl)) ?_
    exact RdH.good hyes (Hp.picks H3 (by repeat (first | exact Picks.nil | (apply Picks.cons; (repeat (first | exact Pick.here | apply Pick.there))))))
end
end Go.Proofs.YthdnepjajhjmlaaGreatDoor
namespace Go.Proofs.YthdnepjajhjmlaaGreatDoor
set_option linter.unusedSimpArgs false
set_option linter.unusedVariables false
open Go Cn Go.RowKit
theorem cw_below (W : World) : Below W.heap.size W (cw W.heap.size W) := ⟨rfl, rfl, rfl, by rw [cw_size]; exact Nat.le_refl _, fun _ hk => cw_heap_lt hk⟩
theorem tabG_of2 {W : World} {x1 x2 : String × DataW Unit} {rest : List (String × DataW Unit)} (h : laidMet Tryz.prog (x1 :: x2 :: ("internal/strconv.uint64pow10", Rows.laid_internal_strconv_uint64pow10) :: rest) W) : TabG (cw W.heap.size W) := by
  rw [pow_dat] at h
  have h3 := h.tail.tail
  have hT : TabG W := Lib.tabIs_of_head (g := (Tryz.prog.globalNamed "internal/strconv.uint64pow10").getD 0) (t := 131) (e := 65) (n := 20) (by kernel_rfl) (by kernel_rfl) Tryz.underlying131 Tryz.underlying65 (by kernel_rfl) (by kernel_rfl) h3
  exact hT.below (cw_below W)
theorem es_star : "*" ++ "errors.errorString" = "*errors.errorString" := by decide
theorem es_row (u : TypeId) (h : Tryz.prog.typeName? 3 u = some "*errors.errorString") : u = 127 :=
  typeName_ptr_named (nm := "errors.errorString") (by rw [es_star]; kernel_rfl) (by kernel_rfl) (by decide) u (by rw [es_star]; exact h)
theorem erG_of {W : World} {x1 x2 x3 x4 : String × DataW Unit} {rest : List (String × DataW Unit)} (h : laidMet Tryz.prog (x1 :: x2 :: x3 :: x4 :: ("strconv.ErrRange", Rows.laid_strconv_ErrRange) :: ("strconv.ErrSyntax", Rows.laid_strconv_ErrSyntax) :: rest) W) : ErG (cw W.heap.size W) := by
  have h5 := h.tail.tail.tail.tail
  have g6 : Tryz.prog.globalNamed "strconv.ErrRange" = some 3 := by kernel_rfl
  have g5 : Tryz.prog.globalNamed "strconv.ErrSyntax" = some 2 := by kernel_rfl
  obtain ⟨a0, s0, hv0, -, -, -⟩ := laid_sentinel h5 g6 (ti := 60) (by kernel_rfl) Tryz.underlying60 es_row Tryz.underlying127 Tryz.underlying129 rfl rfl Tryz.underlying9 (by kernel_rfl) (by kernel_rfl)
  obtain ⟨a1, s1, hv1, -, -, -⟩ := laid_sentinel h5.tail g5 (ti := 60) (by kernel_rfl) Tryz.underlying60 es_row Tryz.underlying127 Tryz.underlying129 rfl rfl Tryz.underlying9 (by kernel_rfl) (by kernel_rfl)
  have hE : ErG W := ⟨⟨_, _, by simpa using World.var?_cell g5 hv1 0⟩, _, _, by simpa using World.var?_cell g6 hv0 0⟩
  exact hE.below (cw_below W)
end Go.Proofs.YthdnepjajhjmlaaGreatDoor
