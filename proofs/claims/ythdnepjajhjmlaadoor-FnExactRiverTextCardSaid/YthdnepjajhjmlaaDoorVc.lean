/- Texts cut, both ways; lines. -/
import Derived.Test.YthdnepjajhjmlaaDoorVb
namespace Go.Proofs.YthdnepjajhjmlaaDoor
set_option linter.unusedSimpArgs false
set_option linter.unusedVariables false
open Go Cn Go.RowKit
/-- a text cut up to the i-th byte -/
structure CutI (s : ByteArray) (c : UInt8) (i fr : Nat) (ys : List ByteArray) : Prop where
  le : fr ≤ i
  no : c ∉ (s.data.toList.drop fr).take (i - fr)
  eq : ys ++ (cutL c (s.data.toList.drop fr)).map ofL = cutB c s
theorem sz_len (s : ByteArray) : s.data.toList.length = s.size := Array.length_toList
theorem CutI.zero (s : ByteArray) (c : UInt8) : CutI s c 0 0 [] := ⟨Nat.le_refl _, by simp, by simp [cutB]⟩
theorem ofL_extract {s : ByteArray} {fr i : Nat} : ofL ((s.data.toList.drop fr).take (i - fr)) = s.extract fr i := by
  apply ByteArray.ext
  rw [ByteArray.data_extract]
  apply Array.toList_inj.1
  rw [Array.toList_extract, List.extract_eq_take_drop]
  rfl
theorem bt_get {s : ByteArray} {i : Nat} (h : i < s.size) {c : UInt8} : bt s i = c.toNat ↔ s.data.toList[i]? = some c := by
  have hl : i < s.data.toList.length := by rw [sz_len]; exact h
  unfold bt
  rw [List.getElem?_eq_getElem hl]
  simp only [Option.getD_some, Option.some.injEq]
  exact UInt8.toNat_inj
theorem CutI.last {s : ByteArray} {c : UInt8} {fr : Nat} {ys : List ByteArray} (h : CutI s c s.size fr ys) : ys ++ [s.extract fr s.size] = cutB c s := by
  have h1 := h.no
  have h2 := h.eq
  rw [List.take_of_length_le (by rw [List.length_drop, sz_len]; omega)] at h1
  rw [cutL_none h1] at h2
  rw [← h2, ← ofL_extract, List.take_of_length_le (by rw [List.length_drop, sz_len]; omega)]
  rfl
theorem drop_at {s : ByteArray} {c : UInt8} {i fr : Nat} (hi : i < s.size) (hf : fr ≤ i) (hb : bt s i = c.toNat) : s.data.toList.drop fr = (s.data.toList.drop fr).take (i - fr) ++ c :: s.data.toList.drop (i + 1) := by
  have hl : i < s.data.toList.length := by rw [sz_len]; exact hi
  have hg := (bt_get hi).1 hb
  rw [List.getElem?_eq_getElem hl, Option.some.injEq] at hg
  conv => lhs; rw [← List.take_append_drop (i - fr) (s.data.toList.drop fr)]
  rw [List.drop_drop, show fr + (i - fr) = i by omega, List.drop_eq_getElem_cons hl, hg]
theorem CutI.hit {s : ByteArray} {c : UInt8} {i fr : Nat} {ys : List ByteArray} (h : CutI s c i fr ys) (hi : i < s.size) (hb : bt s i = c.toNat) : CutI s c (i + 1) (i + 1) (ys ++ [s.extract fr i]) := by
  refine ⟨Nat.le_refl _, by simp, ?_⟩
  have h2 := h.eq
  rw [drop_at hi h.le hb, cutL_hit h.no] at h2
  rw [← h2, ← ofL_extract]
  simp
theorem CutI.miss {s : ByteArray} {c : UInt8} {i fr : Nat} {ys : List ByteArray} (h : CutI s c i fr ys) (hi : i < s.size) (hb : bt s i ≠ c.toNat) : CutI s c (i + 1) fr ys := by
  refine ⟨Nat.le_succ_of_le h.le, ?_, h.eq⟩
  have hl : i < s.data.toList.length := by rw [sz_len]; exact hi
  have hle := h.le
  rw [show i + 1 - fr = (i - fr) + 1 by omega, List.take_add_one, List.getElem?_drop, show fr + (i - fr) = i by omega]
  simp only [List.mem_append, not_or]
  refine ⟨h.no, fun hm => hb ((bt_get hi).2 ?_)⟩
  simpa using hm
theorem CutI.len {s : ByteArray} {c : UInt8} {i fr : Nat} {ys : List ByteArray} (h : CutI s c i fr ys) : ys.length ≤ s.size + 1 := by
  have h1 := congrArg List.length h.eq
  have h2 := cutB_len c s
  rw [List.length_append] at h1
  omega
theorem bs_beq {a b : ByteArray} : (a.toList == b.toList) = decide (a = b) := by
  rw [Bool.eq_iff_iff, beq_iff_eq, bs_eq, decide_eq_true_iff]
/-- what follows the last line -/
def lastB (s : ByteArray) : ByteArray := (cutB 10 s).getD ((cutB 10 s).length - 1) ⟨#[]⟩
theorem sliced_front (b off h c sz : Nat) : sliced (some ⟨b, off, none⟩) 0 h c sz = .slice (some ⟨b, off, none⟩) h c := by
  unfold sliced
  split
  · rfl
  · simp [Addr.add]
/-- a row of texts -/
abbrev sRow (v : Value) (ls : List ByteArray) : Res := .row 9 1 v ls.length (ls.map .string)
section
variable {B : Nat} {A W W' : World} {L : List Res}
theorem Hp.rdRow (H : Hp B A W L) {e : TypeId} {sz b off n c : Nat} {xs : List Value} (hm : Res.row e sz (.slice (some ⟨b, off, none⟩) n c) n xs ∈ L) (hn : 0 < n) : RdV W b off xs := by
  obtain ⟨b', off', e, h⟩ := (H.row_sl hm).read hn
  cases e
  exact h
theorem c_spec_l01Cut {s : ByteArray} {c : UInt8} {k : Int} (hk : k = c.toNat) (hs : s.size ≤ 1048576) (hB : B ≤ W.heap.size) :
    ACalls Tryd.prog B 100 [.string s, .int .u8 k] W (fun r W' => ∃ a n, r = .slice a (cutB c s).length n ∧ Hp B W W' [sRow (.slice a (cutB c s).length n) (cutB c s)]) := by
  have H0 : Hp B W W [] := Hp.new hB
  refine acalls_of Tryd.func100 rfl Tryd.ntmps100 (Nat.le_of_ble_eq_true rfl) ?_
  repeat' (first | refine s_pure tabOk rfl rfl rfl rfl ?_ | refine Stp.imp ?_ | refine aops_nil ?_ | refine aw_reg ?_ | refine aw_seq ?_ | refine s_pass rfl rfl rfl ?_ | refine s_len tabOk rfl rfl rfl rfl ?_ | refine aw_true rfl ?_ | refine aw_false rfl ?_ | refine blk_exit_other rfl ?_ | refine s_arith tabOk rfl rfl rfl rfl (by simp only [InR]; omega) ?_ | ((first | ((fail_if_success refine s_told rfl rfl ?_); refine s_part rfl rfl rfl ?_ ?_) | refine aw_if rfl ?_ ?_) <;> intro hc <;> (first | replace hc := DecT.imp hc | simp only [decs] at hc | skip)) | refine s_index1n tabOk rfl rfl rfl rfl (by omega) ?_ | refine s_indexn tabOk rfl rfl rfl rfl (by omega) ?_ | refine s_index1 tabOk rfl rfl rfl rfl (by omega) (by omega) ?_ | refine sh_load tabOk (by assumption) rfl rfl rfl rfl (by repeat (first | exact List.Mem.head _ | apply List.Mem.tail)) (by rfl) (by rfl) ?_ | refine sh_loada tabOk (by assumption) rfl rfl rfl rfl (by repeat (first | exact List.Mem.head _ | apply List.Mem.tail)) (by rfl) ?_ | (refine sh_box (by assumption) rfl rfl rfl rfl rfl rfl ?_; intro _ _ _) | (refine sh_alloc tabOk (by assumption) rfl rfl rfl rfl rfl rfl ?_; intro _ _ _) | (refine sh_store tabOk (by assumption) rfl rfl rfl rfl rfl rfl (by repeat (first | exact Upd.here | apply Upd.there)) (by rfl) ?_; intro _ _) | (refine sh_lit tabOk (by assumption) rfl rfl rfl rfl rfl rfl rfl rfl rfl rfl rfl ?_; intro _ _ _) | refine sh_build tabOk rfl rfl rfl rfl rfl rfl ?_)
  rename_i b0 W1 H1
  refine aw_loopH (fun x : Nat × Nat × List ByteArray × Option Addr × Nat => [(7, .int .i64 x.1), (6, .int .i64 x.2.1), (5, .slice x.2.2.2.1 x.2.2.1.length x.2.2.2.2), (4, .slice none 0 0), (0, .string s), (1, .int .u8 k)])
    (fun x => [sRow (.slice x.2.2.2.1 x.2.2.1.length x.2.2.2.2) x.2.2.1])
    (fun x => (x.1 ≤ s.size ∧ CutI s c x.1 x.2.1 x.2.2.1) ∨ (x.1 = s.size + 1 ∧ x.2.1 = s.size + 1 ∧ x.2.2.1 = cutB c s)) (fun x => s.size + 1 - x.1) (0, 0, [], some ⟨b0, 0, none⟩, 0) (.inl ⟨Nat.zero_le _, CutI.zero s c⟩) (by dsimp only; exact H1.picks (by repeat (first | exact Picks.nil | (apply Picks.cons; (repeat (first | exact Pick.here | apply Pick.there)))))) (by dsimp only; exact (by repeat (first | exact less_nil | refine less_cons rfl ?_))) ?_
  rintro ⟨i, fr, ys, ad, cp⟩ W2 hi H2
  dsimp only at hi H2 ⊢
  repeat' (first | refine s_pure tabOk rfl rfl rfl rfl ?_ | refine Stp.imp ?_ | refine aops_nil ?_ | refine aw_reg ?_ | refine aw_seq ?_ | refine s_pass rfl rfl rfl ?_ | refine s_len tabOk rfl rfl rfl rfl ?_ | refine aw_true rfl ?_ | refine aw_false rfl ?_ | refine blk_exit_other rfl ?_ | refine s_arith tabOk rfl rfl rfl rfl (by simp only [InR]; omega) ?_ | ((first | ((fail_if_success refine s_told rfl rfl ?_); refine s_part rfl rfl rfl ?_ ?_) | refine aw_if rfl ?_ ?_) <;> intro hc <;> (first | replace hc := DecT.imp hc | simp only [decs] at hc | skip)) | refine s_index1n tabOk rfl rfl rfl rfl (by omega) ?_ | refine s_indexn tabOk rfl rfl rfl rfl (by omega) ?_ | refine s_index1 tabOk rfl rfl rfl rfl (by omega) (by omega) ?_ | refine sh_load tabOk (by assumption) rfl rfl rfl rfl (by repeat (first | exact List.Mem.head _ | apply List.Mem.tail)) (by rfl) (by rfl) ?_ | refine sh_loada tabOk (by assumption) rfl rfl rfl rfl (by repeat (first | exact List.Mem.head _ | apply List.Mem.tail)) (by rfl) ?_ | (refine sh_box (by assumption) rfl rfl rfl rfl rfl rfl ?_; intro _ _ _) | (refine sh_alloc tabOk (by assumption) rfl rfl rfl rfl rfl rfl ?_; intro _ _ _) | (refine sh_store tabOk (by assumption) rfl rfl rfl rfl rfl rfl (by repeat (first | exact Upd.here | apply Upd.there)) (by rfl) ?_; intro _ _) | (refine sh_lit tabOk (by assumption) rfl rfl rfl rfl rfl rfl rfl rfl rfl rfl rfl ?_; intro _ _ _) | refine sh_build tabOk rfl rfl rfl rfl rfl rfl ?_)
  · have e1 : i = s.size := by omega
    subst e1
    obtain ⟨-, hI⟩ := hi.resolve_right (by omega)
    have hle := hI.le
    have hlen := hI.len
    refine s_cutS tabOk rfl rfl rfl rfl (by omega) (by omega) (by omega) ?_
    rw [Int.toNat_natCast, Int.toNat_natCast]
    repeat' (first | refine s_pure tabOk rfl rfl rfl rfl ?_ | refine Stp.imp ?_ | refine aops_nil ?_ | refine aw_reg ?_ | refine aw_seq ?_ | refine s_pass rfl rfl rfl ?_ | refine s_len tabOk rfl rfl rfl rfl ?_ | refine aw_true rfl ?_ | refine aw_false rfl ?_ | refine blk_exit_other rfl ?_ | refine s_arith tabOk rfl rfl rfl rfl (by simp only [InR]; omega) ?_ | ((first | ((fail_if_success refine s_told rfl rfl ?_); refine s_part rfl rfl rfl ?_ ?_) | refine aw_if rfl ?_ ?_) <;> intro hc <;> (first | replace hc := DecT.imp hc | simp only [decs] at hc | skip)) | refine s_index1n tabOk rfl rfl rfl rfl (by omega) ?_ | refine s_indexn tabOk rfl rfl rfl rfl (by omega) ?_ | refine s_index1 tabOk rfl rfl rfl rfl (by omega) (by omega) ?_ | refine sh_load tabOk (by assumption) rfl rfl rfl rfl (by repeat (first | exact List.Mem.head _ | apply List.Mem.tail)) (by rfl) (by rfl) ?_ | refine sh_loada tabOk (by assumption) rfl rfl rfl rfl (by repeat (first | exact List.Mem.head _ | apply List.Mem.tail)) (by rfl) ?_ | (refine sh_box (by assumption) rfl rfl rfl rfl rfl rfl ?_; intro _ _ _) | (refine sh_alloc tabOk (by assumption) rfl rfl rfl rfl rfl rfl ?_; intro _ _ _) | (refine sh_store tabOk (by assumption) rfl rfl rfl rfl rfl rfl (by repeat (first | exact Upd.here | apply Upd.there)) (by rfl) ?_; intro _ _) | (refine sh_lit tabOk (by assumption) rfl rfl rfl rfl rfl rfl rfl rfl rfl rfl rfl ?_; intro _ _ _) | refine sh_build tabOk rfl rfl rfl rfl rfl rfl ?_)
    refine sh_push tabOk (f := Value.string) (by assumption) rfl rfl rfl rfl rfl rfl rfl rfl (fun _ _ => (by repeat (first | exact Upd.here | apply Upd.there))) (by omega) ?_
    intro a7 c7 W7 H7
    rw [show ys.length + 1 = (ys ++ [s.extract fr s.size]).length by simp] at H7 ⊢
    repeat' (first | refine s_pure tabOk rfl rfl rfl rfl ?_ | refine Stp.imp ?_ | refine aops_nil ?_ | refine aw_reg ?_ | refine aw_seq ?_ | refine s_pass rfl rfl rfl ?_ | refine s_len tabOk rfl rfl rfl rfl ?_ | refine aw_true rfl ?_ | refine aw_false rfl ?_ | refine blk_exit_other rfl ?_ | refine s_arith tabOk rfl rfl rfl rfl (by simp only [InR]; omega) ?_ | ((first | ((fail_if_success refine s_told rfl rfl ?_); refine s_part rfl rfl rfl ?_ ?_) | refine aw_if rfl ?_ ?_) <;> intro hc <;> (first | replace hc := DecT.imp hc | simp only [decs] at hc | skip)) | refine s_index1n tabOk rfl rfl rfl rfl (by omega) ?_ | refine s_indexn tabOk rfl rfl rfl rfl (by omega) ?_ | refine s_index1 tabOk rfl rfl rfl rfl (by omega) (by omega) ?_ | refine sh_load tabOk (by assumption) rfl rfl rfl rfl (by repeat (first | exact List.Mem.head _ | apply List.Mem.tail)) (by rfl) (by rfl) ?_ | refine sh_loada tabOk (by assumption) rfl rfl rfl rfl (by repeat (first | exact List.Mem.head _ | apply List.Mem.tail)) (by rfl) ?_ | (refine sh_box (by assumption) rfl rfl rfl rfl rfl rfl ?_; intro _ _ _) | (refine sh_alloc tabOk (by assumption) rfl rfl rfl rfl rfl rfl ?_; intro _ _ _) | (refine sh_store tabOk (by assumption) rfl rfl rfl rfl rfl rfl (by repeat (first | exact Upd.here | apply Upd.there)) (by rfl) ?_; intro _ _) | (refine sh_lit tabOk (by assumption) rfl rfl rfl rfl rfl rfl rfl rfl rfl rfl rfl ?_; intro _ _ _) | refine sh_build tabOk rfl rfl rfl rfl rfl rfl ?_)
    exact rndh_next (s.size + 1, s.size + 1, ys ++ [s.extract fr s.size], a7, c7) (by dsimp only; exact .inr ⟨rfl, rfl, hI.last⟩) (by dsimp only; omega) (by dsimp only; exact (by repeat (first | exact less_nil | refine less_cons rfl ?_))) (Hp.picks (by assumption) (by repeat (first | exact Picks.nil | (apply Picks.cons; (repeat (first | exact Pick.here | apply Pick.there))))))
  · obtain ⟨-, hI⟩ := hi.resolve_right (by omega)
    have hle := hI.le
    have hlen := hI.len
    refine s_byte tabOk rfl rfl rfl rfl (by omega) (by omega) ?_
    rw [Int.toNat_natCast]
    repeat' (first | refine s_pure tabOk rfl rfl rfl rfl ?_ | refine Stp.imp ?_ | refine aops_nil ?_ | refine aw_reg ?_ | refine aw_seq ?_ | refine s_pass rfl rfl rfl ?_ | refine s_len tabOk rfl rfl rfl rfl ?_ | refine aw_true rfl ?_ | refine aw_false rfl ?_ | refine blk_exit_other rfl ?_ | refine s_arith tabOk rfl rfl rfl rfl (by simp only [InR]; omega) ?_ | ((first | ((fail_if_success refine s_told rfl rfl ?_); refine s_part rfl rfl rfl ?_ ?_) | refine aw_if rfl ?_ ?_) <;> intro hc <;> (first | replace hc := DecT.imp hc | simp only [decs] at hc | skip)) | refine s_index1n tabOk rfl rfl rfl rfl (by omega) ?_ | refine s_indexn tabOk rfl rfl rfl rfl (by omega) ?_ | refine s_index1 tabOk rfl rfl rfl rfl (by omega) (by omega) ?_ | refine sh_load tabOk (by assumption) rfl rfl rfl rfl (by repeat (first | exact List.Mem.head _ | apply List.Mem.tail)) (by rfl) (by rfl) ?_ | refine sh_loada tabOk (by assumption) rfl rfl rfl rfl (by repeat (first | exact List.Mem.head _ | apply List.Mem.tail)) (by rfl) ?_ | (refine sh_box (by assumption) rfl rfl rfl rfl rfl rfl ?_; intro _ _ _) | (refine sh_alloc tabOk (by assumption) rfl rfl rfl rfl rfl rfl ?_; intro _ _ _) | (refine sh_store tabOk (by assumption) rfl rfl rfl rfl rfl rfl (by repeat (first | exact Upd.here | apply Upd.there)) (by rfl) ?_; intro _ _) | (refine sh_lit tabOk (by assumption) rfl rfl rfl rfl rfl rfl rfl rfl rfl rfl rfl ?_; intro _ _ _) | refine sh_build tabOk rfl rfl rfl rfl rfl rfl ?_)
    · refine s_cutS tabOk rfl rfl rfl rfl (by omega) (by omega) (by omega) ?_
      rw [Int.toNat_natCast, Int.toNat_natCast]
      repeat' (first | refine s_pure tabOk rfl rfl rfl rfl ?_ | refine Stp.imp ?_ | refine aops_nil ?_ | refine aw_reg ?_ | refine aw_seq ?_ | refine s_pass rfl rfl rfl ?_ | refine s_len tabOk rfl rfl rfl rfl ?_ | refine aw_true rfl ?_ | refine aw_false rfl ?_ | refine blk_exit_other rfl ?_ | refine s_arith tabOk rfl rfl rfl rfl (by simp only [InR]; omega) ?_ | ((first | ((fail_if_success refine s_told rfl rfl ?_); refine s_part rfl rfl rfl ?_ ?_) | refine aw_if rfl ?_ ?_) <;> intro hc <;> (first | replace hc := DecT.imp hc | simp only [decs] at hc | skip)) | refine s_index1n tabOk rfl rfl rfl rfl (by omega) ?_ | refine s_indexn tabOk rfl rfl rfl rfl (by omega) ?_ | refine s_index1 tabOk rfl rfl rfl rfl (by omega) (by omega) ?_ | refine sh_load tabOk (by assumption) rfl rfl rfl rfl (by repeat (first | exact List.Mem.head _ | apply List.Mem.tail)) (by rfl) (by rfl) ?_ | refine sh_loada tabOk (by assumption) rfl rfl rfl rfl (by repeat (first | exact List.Mem.head _ | apply List.Mem.tail)) (by rfl) ?_ | (refine sh_box (by assumption) rfl rfl rfl rfl rfl rfl ?_; intro _ _ _) | (refine sh_alloc tabOk (by assumption) rfl rfl rfl rfl rfl rfl ?_; intro _ _ _) | (refine sh_store tabOk (by assumption) rfl rfl rfl rfl rfl rfl (by repeat (first | exact Upd.here | apply Upd.there)) (by rfl) ?_; intro _ _) | (refine sh_lit tabOk (by assumption) rfl rfl rfl rfl rfl rfl rfl rfl rfl rfl rfl ?_; intro _ _ _) | refine sh_build tabOk rfl rfl rfl rfl rfl rfl ?_)
      refine sh_push tabOk (f := Value.string) (by assumption) rfl rfl rfl rfl rfl rfl rfl rfl (fun _ _ => (by repeat (first | exact Upd.here | apply Upd.there))) (by omega) ?_
      intro a7 c7 W7 H7
      rw [show ys.length + 1 = (ys ++ [s.extract fr i]).length by simp] at H7 ⊢
      repeat' (first | refine s_pure tabOk rfl rfl rfl rfl ?_ | refine Stp.imp ?_ | refine aops_nil ?_ | refine aw_reg ?_ | refine aw_seq ?_ | refine s_pass rfl rfl rfl ?_ | refine s_len tabOk rfl rfl rfl rfl ?_ | refine aw_true rfl ?_ | refine aw_false rfl ?_ | refine blk_exit_other rfl ?_ | refine s_arith tabOk rfl rfl rfl rfl (by simp only [InR]; omega) ?_ | ((first | ((fail_if_success refine s_told rfl rfl ?_); refine s_part rfl rfl rfl ?_ ?_) | refine aw_if rfl ?_ ?_) <;> intro hc <;> (first | replace hc := DecT.imp hc | simp only [decs] at hc | skip)) | refine s_index1n tabOk rfl rfl rfl rfl (by omega) ?_ | refine s_indexn tabOk rfl rfl rfl rfl (by omega) ?_ | refine s_index1 tabOk rfl rfl rfl rfl (by omega) (by omega) ?_ | refine sh_load tabOk (by assumption) rfl rfl rfl rfl (by repeat (first | exact List.Mem.head _ | apply List.Mem.tail)) (by rfl) (by rfl) ?_ | refine sh_loada tabOk (by assumption) rfl rfl rfl rfl (by repeat (first | exact List.Mem.head _ | apply List.Mem.tail)) (by rfl) ?_ | (refine sh_box (by assumption) rfl rfl rfl rfl rfl rfl ?_; intro _ _ _) | (refine sh_alloc tabOk (by assumption) rfl rfl rfl rfl rfl rfl ?_; intro _ _ _) | (refine sh_store tabOk (by assumption) rfl rfl rfl rfl rfl rfl (by repeat (first | exact Upd.here | apply Upd.there)) (by rfl) ?_; intro _ _) | (refine sh_lit tabOk (by assumption) rfl rfl rfl rfl rfl rfl rfl rfl rfl rfl rfl ?_; intro _ _ _) | refine sh_build tabOk rfl rfl rfl rfl rfl rfl ?_)
      exact rndh_next (i + 1, i + 1, ys ++ [s.extract fr i], a7, c7) (by dsimp only; exact .inl ⟨by omega, hI.hit (by omega) (by omega)⟩) (by dsimp only; omega) (by dsimp only; exact (by repeat (first | exact less_nil | refine less_cons rfl ?_))) (Hp.picks (by assumption) (by repeat (first | exact Picks.nil | (apply Picks.cons; (repeat (first | exact Pick.here | apply Pick.there))))))
    · exact rndh_next (i + 1, fr, ys, ad, cp) (by dsimp only; exact .inl ⟨by omega, hI.miss (by omega) (by omega)⟩) (by dsimp only; omega) (by dsimp only; exact (by repeat (first | exact less_nil | refine less_cons rfl ?_))) (Hp.picks (by assumption) (by repeat (first | exact Picks.nil | (apply Picks.cons; (repeat (first | exact Pick.here | apply Pick.there))))))
  · obtain ⟨e1, e2, e3⟩ := hi.resolve_left (by omega)
    subst e3
    refine retK_ret tabOk (congrArg Array.toList Tryd.results100) (by repeat (first | exact rv_nil | apply rv_tmp rfl rfl | apply rv_cellH (by assumption) rfl rfl rfl (by repeat (first | exact List.Mem.head _ | apply List.Mem.tail)) rfl)) ?_
    exact ⟨_, _, rfl, H2⟩
theorem c_spec_l08Lines {s : ByteArray} (hs : s.size ≤ 1048576) (hB : B ≤ W.heap.size) :
    ACalls Tryd.prog B 50 [.string s] W (fun r W' => ∃ b off n, r = .tuple #[.slice (some ⟨b, off, none⟩) ((cutB 10 s).length - 1) n, .string (lastB s)] ∧ RdV W' b off ((cutB 10 s).map .string) ∧ Hp B W W' [sRow (.slice (some ⟨b, off, none⟩) (cutB 10 s).length n) (cutB 10 s)]) := by
  have H0 : Hp B W W [] := Hp.new hB
  have hne := cutB_ne 10 s
  have hpos := List.length_pos_iff.2 hne
  have hln := cutB_len 10 s
  refine acalls_of Tryd.func50 rfl Tryd.ntmps50 (Nat.le_of_ble_eq_true rfl) ?_
  repeat' (first | refine s_pure tabOk rfl rfl rfl rfl ?_ | refine Stp.imp ?_ | refine aops_nil ?_ | refine aw_reg ?_ | refine aw_seq ?_ | refine s_pass rfl rfl rfl ?_ | refine s_len tabOk rfl rfl rfl rfl ?_ | refine aw_true rfl ?_ | refine aw_false rfl ?_ | refine blk_exit_other rfl ?_ | refine s_arith tabOk rfl rfl rfl rfl (by simp only [InR]; omega) ?_ | ((first | ((fail_if_success refine s_told rfl rfl ?_); refine s_part rfl rfl rfl ?_ ?_) | refine aw_if rfl ?_ ?_) <;> intro hc <;> (first | replace hc := DecT.imp hc | simp only [decs] at hc | skip)) | refine s_index1n tabOk rfl rfl rfl rfl (by omega) ?_ | refine s_indexn tabOk rfl rfl rfl rfl (by omega) ?_ | refine s_index1 tabOk rfl rfl rfl rfl (by omega) (by omega) ?_ | refine sh_load tabOk (by assumption) rfl rfl rfl rfl (by repeat (first | exact List.Mem.head _ | apply List.Mem.tail)) (by rfl) (by rfl) ?_ | refine sh_loada tabOk (by assumption) rfl rfl rfl rfl (by repeat (first | exact List.Mem.head _ | apply List.Mem.tail)) (by rfl) ?_ | (refine sh_box (by assumption) rfl rfl rfl rfl rfl rfl ?_; intro _ _ _) | (refine sh_alloc tabOk (by assumption) rfl rfl rfl rfl rfl rfl ?_; intro _ _ _) | (refine sh_store tabOk (by assumption) rfl rfl rfl rfl rfl rfl (by repeat (first | exact Upd.here | apply Upd.there)) (by rfl) ?_; intro _ _) | (refine sh_lit tabOk (by assumption) rfl rfl rfl rfl rfl rfl rfl rfl rfl rfl rfl ?_; intro _ _ _) | refine sh_build tabOk rfl rfl rfl rfl rfl rfl ?_)
  refine s_call rfl rfl rfl rfl ent100 (c_spec_l01Cut (c := 10) (by rfl) hs (Hp.size (by assumption))) ?_
  rintro _ W1 ⟨a, n, rfl, g1⟩
  have H1 := Hp.call1 (by assumption) g1
  have hsl := H1.row_sl (List.Mem.head _)
  obtain ⟨b, off, rfl, hr⟩ := hsl.read (by omega)
  obtain ⟨_, _, e0, hcap⟩ := hsl.form
  cases e0
  repeat' (first | refine s_pure tabOk rfl rfl rfl rfl ?_ | refine Stp.imp ?_ | refine aops_nil ?_ | refine aw_reg ?_ | refine aw_seq ?_ | refine s_pass rfl rfl rfl ?_ | refine s_len tabOk rfl rfl rfl rfl ?_ | refine aw_true rfl ?_ | refine aw_false rfl ?_ | refine blk_exit_other rfl ?_ | refine s_arith tabOk rfl rfl rfl rfl (by simp only [InR]; omega) ?_ | ((first | ((fail_if_success refine s_told rfl rfl ?_); refine s_part rfl rfl rfl ?_ ?_) | refine aw_if rfl ?_ ?_) <;> intro hc <;> (first | replace hc := DecT.imp hc | simp only [decs] at hc | skip)) | refine s_index1n tabOk rfl rfl rfl rfl (by omega) ?_ | refine s_indexn tabOk rfl rfl rfl rfl (by omega) ?_ | refine s_index1 tabOk rfl rfl rfl rfl (by omega) (by omega) ?_ | refine sh_load tabOk (by assumption) rfl rfl rfl rfl (by repeat (first | exact List.Mem.head _ | apply List.Mem.tail)) (by rfl) (by rfl) ?_ | refine sh_loada tabOk (by assumption) rfl rfl rfl rfl (by repeat (first | exact List.Mem.head _ | apply List.Mem.tail)) (by rfl) ?_ | (refine sh_box (by assumption) rfl rfl rfl rfl rfl rfl ?_; intro _ _ _) | (refine sh_alloc tabOk (by assumption) rfl rfl rfl rfl rfl rfl ?_; intro _ _ _) | (refine sh_store tabOk (by assumption) rfl rfl rfl rfl rfl rfl (by repeat (first | exact Upd.here | apply Upd.there)) (by rfl) ?_; intro _ _) | (refine sh_lit tabOk (by assumption) rfl rfl rfl rfl rfl rfl rfl rfl rfl rfl rfl ?_; intro _ _ _) | refine sh_build tabOk rfl rfl rfl rfl rfl rfl ?_)
  refine aw_quiet followsMixed lx (by kernel_rfl) ?_; repeat (first | refine q_pure tabOk rfl rfl rfl rfl ?_ | refine q_len tabOk rfl rfl rfl rfl ?_ | refine q_pass rfl rfl rfl ?_ | refine q_index1n tabOk rfl rfl rfl rfl (by omega) ?_ | refine q_indexn tabOk rfl rfl rfl rfl (by omega) ?_ | refine q_index1 tabOk rfl rfl rfl rfl (by omega) (by omega) ?_ | refine q_arith tabOk rfl rfl rfl rfl (by simp only [InR]; omega) ?_)
  refine q_gives rfl rfl rfl (gives_cut tabOk rfl (by omega) (by omega) (by omega) (by omega)) ?_
  repeat (first | refine q_pure tabOk rfl rfl rfl rfl ?_ | refine q_len tabOk rfl rfl rfl rfl ?_ | refine q_pass rfl rfl rfl ?_ | refine q_index1n tabOk rfl rfl rfl rfl (by omega) ?_ | refine q_indexn tabOk rfl rfl rfl rfl (by omega) ?_ | refine q_index1 tabOk rfl rfl rfl rfl (by omega) (by omega) ?_ | refine q_arith tabOk rfl rfl rfl rfl (by simp only [InR]; omega) ?_)
  refine q_readT tabOk ⟨#[]⟩ rfl rfl rfl rfl hr (j := (cutB 10 s).length - 1) (by omega) (by omega) ?_
  repeat (first | refine q_pure tabOk rfl rfl rfl rfl ?_ | refine q_len tabOk rfl rfl rfl rfl ?_ | refine q_pass rfl rfl rfl ?_ | refine q_index1n tabOk rfl rfl rfl rfl (by omega) ?_ | refine q_indexn tabOk rfl rfl rfl rfl (by omega) ?_ | refine q_index1 tabOk rfl rfl rfl rfl (by omega) (by omega) ?_ | refine q_arith tabOk rfl rfl rfl rfl (by simp only [InR]; omega) ?_)
  refine aq_nil ?_
  repeat' (first | refine s_pure tabOk rfl rfl rfl rfl ?_ | refine Stp.imp ?_ | refine aops_nil ?_ | refine aw_reg ?_ | refine aw_seq ?_ | refine s_pass rfl rfl rfl ?_ | refine s_len tabOk rfl rfl rfl rfl ?_ | refine aw_true rfl ?_ | refine aw_false rfl ?_ | refine blk_exit_other rfl ?_ | refine s_arith tabOk rfl rfl rfl rfl (by simp only [InR]; omega) ?_ | ((first | ((fail_if_success refine s_told rfl rfl ?_); refine s_part rfl rfl rfl ?_ ?_) | refine aw_if rfl ?_ ?_) <;> intro hc <;> (first | replace hc := DecT.imp hc | simp only [decs] at hc | skip)) | refine s_index1n tabOk rfl rfl rfl rfl (by omega) ?_ | refine s_indexn tabOk rfl rfl rfl rfl (by omega) ?_ | refine s_index1 tabOk rfl rfl rfl rfl (by omega) (by omega) ?_ | refine sh_load tabOk (by assumption) rfl rfl rfl rfl (by repeat (first | exact List.Mem.head _ | apply List.Mem.tail)) (by rfl) (by rfl) ?_ | refine sh_loada tabOk (by assumption) rfl rfl rfl rfl (by repeat (first | exact List.Mem.head _ | apply List.Mem.tail)) (by rfl) ?_ | (refine sh_box (by assumption) rfl rfl rfl rfl rfl rfl ?_; intro _ _ _) | (refine sh_alloc tabOk (by assumption) rfl rfl rfl rfl rfl rfl ?_; intro _ _ _) | (refine sh_store tabOk (by assumption) rfl rfl rfl rfl rfl rfl (by repeat (first | exact Upd.here | apply Upd.there)) (by rfl) ?_; intro _ _) | (refine sh_lit tabOk (by assumption) rfl rfl rfl rfl rfl rfl rfl rfl rfl rfl rfl ?_; intro _ _ _) | refine sh_build tabOk rfl rfl rfl rfl rfl rfl ?_)
  refine retK_ret tabOk (congrArg Array.toList Tryd.results50) (by repeat (first | exact rv_nil | apply rv_tmp rfl rfl | apply rv_cellH (by assumption) rfl rfl rfl (by repeat (first | exact List.Mem.head _ | apply List.Mem.tail)) rfl)) ?_
  rw [show (0 : Int).toNat = 0 from rfl, sliced_front, show (((cutB 10 s).length : Int) - 1).toNat = (cutB 10 s).length - 1 by omega]
  exact ⟨b, off, n, rfl, hr, Hp.picks (by assumption) (by repeat (first | exact Picks.nil | (apply Picks.cons; (repeat (first | exact Pick.here | apply Pick.there)))))⟩
theorem c_impl_linesOf (hG : LibG W) {s : ByteArray} (hs : s.size ≤ 1048576) (hB : B ≤ W.heap.size) :
    ACalls Tryd.prog B 51 [.string s] W (fun r W' => ∃ b off n, r = .tuple #[.slice (some ⟨b, off, none⟩) ((cutB 10 s).length - 1) n, .bool (decide (s.size ≤ 16000) && decide (lastB s = ⟨#[]⟩))] ∧ RdV W' b off ((cutB 10 s).map .string) ∧ Hp B W W' [sRow (.slice (some ⟨b, off, none⟩) (cutB 10 s).length n) (cutB 10 s)]) := by
  have H0 : Hp B W W [] := Hp.new hB
  have hne := cutB_ne 10 s
  have hpos := List.length_pos_iff.2 hne
  have hln := cutB_len 10 s
  refine acalls_of Tryd.func51 rfl Tryd.ntmps51 (Nat.le_of_ble_eq_true rfl) ?_
  repeat' (first | refine s_pure tabOk rfl rfl rfl rfl ?_ | refine Stp.imp ?_ | refine aops_nil ?_ | refine aw_reg ?_ | refine aw_seq ?_ | refine s_pass rfl rfl rfl ?_ | refine s_len tabOk rfl rfl rfl rfl ?_ | refine aw_true rfl ?_ | refine aw_false rfl ?_ | refine blk_exit_other rfl ?_ | refine s_arith tabOk rfl rfl rfl rfl (by simp only [InR]; omega) ?_ | ((first | ((fail_if_success refine s_told rfl rfl ?_); refine s_part rfl rfl rfl ?_ ?_) | refine aw_if rfl ?_ ?_) <;> intro hc <;> (first | replace hc := DecT.imp hc | simp only [decs] at hc | skip)) | refine s_index1n tabOk rfl rfl rfl rfl (by omega) ?_ | refine s_indexn tabOk rfl rfl rfl rfl (by omega) ?_ | refine s_index1 tabOk rfl rfl rfl rfl (by omega) (by omega) ?_ | refine sh_load tabOk (by assumption) rfl rfl rfl rfl (by repeat (first | exact List.Mem.head _ | apply List.Mem.tail)) (by rfl) (by rfl) ?_ | refine sh_loada tabOk (by assumption) rfl rfl rfl rfl (by repeat (first | exact List.Mem.head _ | apply List.Mem.tail)) (by rfl) ?_ | (refine sh_box (by assumption) rfl rfl rfl rfl rfl rfl ?_; intro _ _ _) | (refine sh_alloc tabOk (by assumption) rfl rfl rfl rfl rfl rfl ?_; intro _ _ _) | (refine sh_store tabOk (by assumption) rfl rfl rfl rfl rfl rfl (by repeat (first | exact Upd.here | apply Upd.there)) (by rfl) ?_; intro _ _) | (refine sh_lit tabOk (by assumption) rfl rfl rfl rfl rfl rfl rfl rfl rfl rfl rfl ?_; intro _ _ _) | refine sh_build tabOk rfl rfl rfl rfl rfl rfl ?_)
  refine s_call rfl rfl rfl rfl ent74 (c_Split (hG.hp H0) hs (Hp.size (by assumption))) ?_
  rintro _ W1 ⟨b, rfl, g1⟩
  have H1 := Hp.call1 (by assumption) g1
  have hsl := H1.row_sl (List.Mem.head _)
  obtain ⟨b, off, e0, hr⟩ := hsl.read (by omega)
  cases e0
  repeat' (first | refine s_pure tabOk rfl rfl rfl rfl ?_ | refine Stp.imp ?_ | refine aops_nil ?_ | refine aw_reg ?_ | refine aw_seq ?_ | refine s_pass rfl rfl rfl ?_ | refine s_len tabOk rfl rfl rfl rfl ?_ | refine aw_true rfl ?_ | refine aw_false rfl ?_ | refine blk_exit_other rfl ?_ | refine s_arith tabOk rfl rfl rfl rfl (by simp only [InR]; omega) ?_ | ((first | ((fail_if_success refine s_told rfl rfl ?_); refine s_part rfl rfl rfl ?_ ?_) | refine aw_if rfl ?_ ?_) <;> intro hc <;> (first | replace hc := DecT.imp hc | simp only [decs] at hc | skip)) | refine s_index1n tabOk rfl rfl rfl rfl (by omega) ?_ | refine s_indexn tabOk rfl rfl rfl rfl (by omega) ?_ | refine s_index1 tabOk rfl rfl rfl rfl (by omega) (by omega) ?_ | refine sh_load tabOk (by assumption) rfl rfl rfl rfl (by repeat (first | exact List.Mem.head _ | apply List.Mem.tail)) (by rfl) (by rfl) ?_ | refine sh_loada tabOk (by assumption) rfl rfl rfl rfl (by repeat (first | exact List.Mem.head _ | apply List.Mem.tail)) (by rfl) ?_ | (refine sh_box (by assumption) rfl rfl rfl rfl rfl rfl ?_; intro _ _ _) | (refine sh_alloc tabOk (by assumption) rfl rfl rfl rfl rfl rfl ?_; intro _ _ _) | (refine sh_store tabOk (by assumption) rfl rfl rfl rfl rfl rfl (by repeat (first | exact Upd.here | apply Upd.there)) (by rfl) ?_; intro _ _) | (refine sh_lit tabOk (by assumption) rfl rfl rfl rfl rfl rfl rfl rfl rfl rfl rfl ?_; intro _ _ _) | refine sh_build tabOk rfl rfl rfl rfl rfl rfl ?_)
  refine aw_quiet followsMixed lx (by kernel_rfl) ?_; repeat (first | refine q_pure tabOk rfl rfl rfl rfl ?_ | refine q_len tabOk rfl rfl rfl rfl ?_ | refine q_pass rfl rfl rfl ?_ | refine q_index1n tabOk rfl rfl rfl rfl (by omega) ?_ | refine q_indexn tabOk rfl rfl rfl rfl (by omega) ?_ | refine q_index1 tabOk rfl rfl rfl rfl (by omega) (by omega) ?_ | refine q_arith tabOk rfl rfl rfl rfl (by simp only [InR]; omega) ?_)
  refine q_gives rfl rfl rfl (gives_cut tabOk rfl (by omega) (by omega) (by omega) (by omega)) ?_
  repeat (first | refine q_pure tabOk rfl rfl rfl rfl ?_ | refine q_len tabOk rfl rfl rfl rfl ?_ | refine q_pass rfl rfl rfl ?_ | refine q_index1n tabOk rfl rfl rfl rfl (by omega) ?_ | refine q_indexn tabOk rfl rfl rfl rfl (by omega) ?_ | refine q_index1 tabOk rfl rfl rfl rfl (by omega) (by omega) ?_ | refine q_arith tabOk rfl rfl rfl rfl (by simp only [InR]; omega) ?_)
  by_cases hd : (s.size : Int) ≤ 16000
  · have hd2 : s.size ≤ 16000 := by omega
    rw [decide_eq_true hd]
    repeat (first | refine q_pure tabOk rfl rfl rfl rfl ?_ | refine q_len tabOk rfl rfl rfl rfl ?_ | refine q_pass rfl rfl rfl ?_ | refine q_index1n tabOk rfl rfl rfl rfl (by omega) ?_ | refine q_indexn tabOk rfl rfl rfl rfl (by omega) ?_ | refine q_index1 tabOk rfl rfl rfl rfl (by omega) (by omega) ?_ | refine q_arith tabOk rfl rfl rfl rfl (by simp only [InR]; omega) ?_)
    refine q_readT tabOk ⟨#[]⟩ rfl rfl rfl rfl hr (j := (cutB 10 s).length - 1) (by omega) (by omega) ?_
    repeat (first | refine q_pure tabOk rfl rfl rfl rfl ?_ | refine q_len tabOk rfl rfl rfl rfl ?_ | refine q_pass rfl rfl rfl ?_ | refine q_index1n tabOk rfl rfl rfl rfl (by omega) ?_ | refine q_indexn tabOk rfl rfl rfl rfl (by omega) ?_ | refine q_index1 tabOk rfl rfl rfl rfl (by omega) (by omega) ?_ | refine q_arith tabOk rfl rfl rfl rfl (by simp only [InR]; omega) ?_)
    refine aq_nil ?_
    repeat' (first | refine s_pure tabOk rfl rfl rfl rfl ?_ | refine Stp.imp ?_ | refine aops_nil ?_ | refine aw_reg ?_ | refine aw_seq ?_ | refine s_pass rfl rfl rfl ?_ | refine s_len tabOk rfl rfl rfl rfl ?_ | refine aw_true rfl ?_ | refine aw_false rfl ?_ | refine blk_exit_other rfl ?_ | refine s_arith tabOk rfl rfl rfl rfl (by simp only [InR]; omega) ?_ | ((first | ((fail_if_success refine s_told rfl rfl ?_); refine s_part rfl rfl rfl ?_ ?_) | refine aw_if rfl ?_ ?_) <;> intro hc <;> (first | replace hc := DecT.imp hc | simp only [decs] at hc | skip)) | refine s_index1n tabOk rfl rfl rfl rfl (by omega) ?_ | refine s_indexn tabOk rfl rfl rfl rfl (by omega) ?_ | refine s_index1 tabOk rfl rfl rfl rfl (by omega) (by omega) ?_ | refine sh_load tabOk (by assumption) rfl rfl rfl rfl (by repeat (first | exact List.Mem.head _ | apply List.Mem.tail)) (by rfl) (by rfl) ?_ | refine sh_loada tabOk (by assumption) rfl rfl rfl rfl (by repeat (first | exact List.Mem.head _ | apply List.Mem.tail)) (by rfl) ?_ | (refine sh_box (by assumption) rfl rfl rfl rfl rfl rfl ?_; intro _ _ _) | (refine sh_alloc tabOk (by assumption) rfl rfl rfl rfl rfl rfl ?_; intro _ _ _) | (refine sh_store tabOk (by assumption) rfl rfl rfl rfl rfl rfl (by repeat (first | exact Upd.here | apply Upd.there)) (by rfl) ?_; intro _ _) | (refine sh_lit tabOk (by assumption) rfl rfl rfl rfl rfl rfl rfl rfl rfl rfl rfl ?_; intro _ _ _) | refine sh_build tabOk rfl rfl rfl rfl rfl rfl ?_)
    refine retK_ret tabOk (congrArg Array.toList Tryd.results51) (by repeat (first | exact rv_nil | apply rv_tmp rfl rfl | apply rv_cellH (by assumption) rfl rfl rfl (by repeat (first | exact List.Mem.head _ | apply List.Mem.tail)) rfl)) ?_
    rw [show (0 : Int).toNat = 0 from rfl, sliced_front, show (((cutB 10 s).length : Int) - 1).toNat = (cutB 10 s).length - 1 by omega]
    refine ⟨b, _, _, ?_, hr, Hp.picks (by assumption) (by repeat (first | exact Picks.nil | (apply Picks.cons; (repeat (first | exact Pick.here | apply Pick.there)))))⟩
    rw [decide_eq_true hd2, Bool.true_and, ← bs_beq]
    rfl
  · have hd2 : ¬ s.size ≤ 16000 := by omega
    rw [decide_eq_false hd]
    repeat (first | refine q_pure tabOk rfl rfl rfl rfl ?_ | refine q_len tabOk rfl rfl rfl rfl ?_ | refine q_pass rfl rfl rfl ?_ | refine q_index1n tabOk rfl rfl rfl rfl (by omega) ?_ | refine q_indexn tabOk rfl rfl rfl rfl (by omega) ?_ | refine q_index1 tabOk rfl rfl rfl rfl (by omega) (by omega) ?_ | refine q_arith tabOk rfl rfl rfl rfl (by simp only [InR]; omega) ?_)
    refine aq_nil ?_
    repeat' (first | refine s_pure tabOk rfl rfl rfl rfl ?_ | refine Stp.imp ?_ | refine aops_nil ?_ | refine aw_reg ?_ | refine aw_seq ?_ | refine s_pass rfl rfl rfl ?_ | refine s_len tabOk rfl rfl rfl rfl ?_ | refine aw_true rfl ?_ | refine aw_false rfl ?_ | refine blk_exit_other rfl ?_ | refine s_arith tabOk rfl rfl rfl rfl (by simp only [InR]; omega) ?_ | ((first | ((fail_if_success refine s_told rfl rfl ?_); refine s_part rfl rfl rfl ?_ ?_) | refine aw_if rfl ?_ ?_) <;> intro hc <;> (first | replace hc := DecT.imp hc | simp only [decs] at hc | skip)) | refine s_index1n tabOk rfl rfl rfl rfl (by omega) ?_ | refine s_indexn tabOk rfl rfl rfl rfl (by omega) ?_ | refine s_index1 tabOk rfl rfl rfl rfl (by omega) (by omega) ?_ | refine sh_load tabOk (by assumption) rfl rfl rfl rfl (by repeat (first | exact List.Mem.head _ | apply List.Mem.tail)) (by rfl) (by rfl) ?_ | refine sh_loada tabOk (by assumption) rfl rfl rfl rfl (by repeat (first | exact List.Mem.head _ | apply List.Mem.tail)) (by rfl) ?_ | (refine sh_box (by assumption) rfl rfl rfl rfl rfl rfl ?_; intro _ _ _) | (refine sh_alloc tabOk (by assumption) rfl rfl rfl rfl rfl rfl ?_; intro _ _ _) | (refine sh_store tabOk (by assumption) rfl rfl rfl rfl rfl rfl (by repeat (first | exact Upd.here | apply Upd.there)) (by rfl) ?_; intro _ _) | (refine sh_lit tabOk (by assumption) rfl rfl rfl rfl rfl rfl rfl rfl rfl rfl rfl ?_; intro _ _ _) | refine sh_build tabOk rfl rfl rfl rfl rfl rfl ?_)
    refine retK_ret tabOk (congrArg Array.toList Tryd.results51) (by repeat (first | exact rv_nil | apply rv_tmp rfl rfl | apply rv_cellH (by assumption) rfl rfl rfl (by repeat (first | exact List.Mem.head _ | apply List.Mem.tail)) rfl)) ?_
    rw [show (0 : Int).toNat = 0 from rfl, sliced_front, show (((cutB 10 s).length : Int) - 1).toNat = (cutB 10 s).length - 1 by omega]
    refine ⟨b, _, _, ?_, hr, Hp.picks (by assumption) (by repeat (first | exact Picks.nil | (apply Picks.cons; (repeat (first | exact Pick.here | apply Pick.there)))))⟩
    rw [decide_eq_false hd2]
    rfl
end
end Go.Proofs.YthdnepjajhjmlaaDoor
