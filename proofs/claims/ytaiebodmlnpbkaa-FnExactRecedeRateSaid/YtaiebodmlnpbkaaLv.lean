/- Logarithms: the loops, and that what is narrowed is never too great. -/
import Derived.Test.YtaiebodmlnpbkaaLu
import Derived.Test.YtaiebodmlnpbkaaLr
namespace Go.Proofs.Ytaiebodmlnpbkaa
set_option linter.unusedSimpArgs false
set_option linter.unusedVariables false
open Go Cn Go.RowKit
@[irreducible] def lgS (r : Nat) : Nat := fop .quo .f64 (fop .sub .f64 r 4607182418800017408) (fop .add .f64 r 4607182418800017408)
def lgQ (u : Nat) : Nat → Nat
  | 0 => 0
  | i + 1 => fop .add .f64 (fop .quo .f64 4607182418800017408 (fint .f64 (25 - 2 * (i : Int)))) (fop .mul .f64 u (lgQ u i))
@[irreducible] def lgW (r : Nat) (e : Int) : Nat := fop .add .f64 (fop .mul .f64 4611686018427387904 (fop .mul .f64 (lgS r) (lgQ (fop .mul .f64 (lgS r) (lgS r)) 13))) (fop .mul .f64 (fint .f64 e) 4604418534313441775)
@[irreducible] def lgE (r : Nat) : Int := ((r : Int) - 4604930618986332160) / 4503599627370496
@[irreducible] def lgR (r : Nat) : Nat := ((r : Int) - lgE r * 4503599627370496).toNat
@[irreducible] def lgX (r : Nat) : Nat := lgW (lgR r) (lgE r)
/-- the words of numbers above zero that come of 32-bit ones -/
def Mid (r : Nat) : Prop := 3936146074321813504 ≤ r ∧ r < 5183643171103440896
theorem lg_is {r0 r : Nat} {e : Int} (h : (r : Int) + e * 4503599627370496 = r0) (h1 : 4604930618986332160 ≤ r) (h2 : r < 4609434218613702656) : lgR r0 = r ∧ lgE r0 = e := by
  have he : lgE r0 = e := by unfold lgE; omega
  refine ⟨?_, he⟩
  unfold lgR
  rw [he]
  omega
theorem lg_rng {r0 : Nat} (h : Mid r0) : (4604930618986332160 ≤ lgR r0 ∧ lgR r0 < 4609434218613702656) ∧ (-160 ≤ lgE r0 ∧ lgE r0 ≤ 140) := by
  unfold Mid at h
  have he : lgE r0 = ((r0 : Int) - 4604930618986332160) / 4503599627370496 := by unfold lgE; rfl
  unfold lgR
  omega
theorem fint_one : fint .f64 1 = 4607182418800017408 := by unfold fint cb; kernel_rfl
theorem fint_zero : fint .f64 0 = 0 := by unfold fint cb; kernel_rfl
theorem e_up : (List.range 401).all (fun k => fop .add .f64 (fint .f64 ((k : Int) - 200)) 4607182418800017408 == fint .f64 ((k : Int) - 199)) = true := by kernel_rfl
theorem e_down : (List.range 401).all (fun k => fop .sub .f64 (fint .f64 ((k : Int) - 200)) 4607182418800017408 == fint .f64 ((k : Int) - 201)) = true := by kernel_rfl
theorem e_add {e : Int} (h1 : -200 ≤ e) (h2 : e ≤ 200) : fop .add .f64 (fint .f64 e) 4607182418800017408 = fint .f64 (e + 1) := by
  have := List.all_eq_true.1 e_up (e + 200).toNat (List.mem_range.2 (by omega))
  rw [beq_iff_eq, show (((e + 200).toNat : Nat) : Int) - 200 = e by omega, show (((e + 200).toNat : Nat) : Int) - 199 = e + 1 by omega] at this
  exact this
theorem e_sub {e : Int} (h1 : -200 ≤ e) (h2 : e ≤ 200) : fop .sub .f64 (fint .f64 e) 4607182418800017408 = fint .f64 (e - 1) := by
  have := List.all_eq_true.1 e_down (e + 200).toNat (List.mem_range.2 (by omega))
  rw [beq_iff_eq, show (((e + 200).toNat : Nat) : Int) - 200 = e by omega, show (((e + 200).toNat : Nat) : Int) - 201 = e - 1 by omega] at this
  exact this
/-! ### bounds -/
theorem fint_le {n : Int} (h : n.natAbs ≤ 256) : DLe 8 (FloatKind.f64.decode (fint .f64 n)) := by
  obtain ⟨h1, h2⟩ := enc64 (s := decide (n < 0)) (m := n.natAbs) (p := 0) (k := 8) (.inr ⟨by decide, h⟩) (by decide) (by decide)
  unfold fint
  rw [show FloatKind.f64.nearest n = FloatKind.f64.encode (.number (decide (n < 0)) n.natAbs 0) from rfl, h2]
  exact h1
theorem fint_ge {n : Nat} (h0 : n ≠ 0) (h : n ≤ 256) : DGe 0 (FloatKind.f64.decode (fint .f64 (n : Int))) := by
  have hlog : n.log2 ≤ 8 := by
    apply Nat.le_of_not_lt
    intro h3
    have h4 := (Nat.le_log2 (k := 9) h0).1 (by omega)
    omega
  obtain ⟨r, h1, h2, h3⟩ := enc_small (s := false) (p := 0) h0 (by omega) (by omega) (by omega)
  obtain ⟨-, h5⟩ := enc64 (s := false) (m := n) (p := 0) (k := 8) (.inr ⟨by decide, h⟩) (by decide) (by decide)
  unfold fint
  rw [show FloatKind.f64.nearest (n : Int) = FloatKind.f64.encode (.number false n 0) by show FloatKind.f64.encode (.number (decide ((n : Int) < 0)) (n : Int).natAbs 0) = _; rw [decide_eq_false (by omega), Int.natAbs_natCast], h5, h1, word64]
  simp only [Bool.false_eq_true, if_false]
  have hr1 : 4503599627370496 ≤ r := by omega
  have hr2 : r < 9218868437227405312 := by omega
  rw [dec_norm hr1 hr2]
  have hl := log_shift (m := 4503599627370496 + r % 4503599627370496) (j := 0) (by omega) (by omega)
  rw [Nat.pow_zero, Nat.mul_one] at hl
  refine ⟨by omega, ?_⟩
  rw [hl]
  omega
theorem one_le : DLe 0 (FloatKind.f64.decode 4607182418800017408) := by rw [dec_one]; exact .inr ⟨by decide, by decide⟩
theorem two_le : DLe 1 (FloatKind.f64.decode 4611686018427387904) := by rw [dec_two]; exact .inr ⟨by decide, by decide⟩
theorem zero_le64 : DLe 2 (FloatKind.f64.decode 0) := by rw [dec64]; exact .inl rfl
theorem lgS_le {r : Nat} (h1 : 4604930618986332160 ≤ r) (h2 : r < 4609434218613702656) : DLe 3 (FloatKind.f64.decode (lgS r)) := by
  have hd := dec_norm (r := r) (by omega) (by omega)
  have hl : Le2 1 (4503599627370496 + r % 4503599627370496) (-1074 + ((r / 4503599627370496 - 1 : Nat) : Int)) := by
    refine .inr ⟨by omega, ?_⟩
    have : 2 ^ 53 ≤ 2 ^ (1 - (-1074 + ((r / 4503599627370496 - 1 : Nat) : Int))).toNat := Nat.pow_le_pow_right (by decide) (by omega)
    omega
  have hx : DLe 1 (FloatKind.f64.decode r) := by rw [hd]; exact hl
  unfold lgS
  exact quo_le64 (a := 2) (b := 0) (sub_le64 (k := 1) hx (one_le.up (by decide)) (by decide) (by decide)) (add_one_ge hd (by omega) (hl.up (by decide))) (by decide) (by decide)
theorem lgQ_le {u : Nat} (hu : DLe 6 (FloatKind.f64.decode u)) : ∀ i : Nat, i ≤ 13 → DLe (7 * i + 2) (FloatKind.f64.decode (lgQ u i))
  | 0, _ => zero_le64
  | i + 1, h => by
    have h1 := lgQ_le hu i (by omega)
    have h2 := mul_le64 hu h1 (by omega) (by omega)
    have h3 := fint_ge (n := 25 - 2 * i) (by omega) (by omega)
    rw [show (((25 - 2 * i : Nat) : Int)) = 25 - 2 * (i : Int) by omega] at h3
    have h4 := quo_le64 (a := 0) (b := 0) one_le h3 (by decide) (by decide)
    have h5 := add_le64 (k := 7 * (i : Int) + 8) (h4.up (by omega)) (h2.up (by omega)) (by omega) (by omega)
    unfold lgQ
    exact h5.up (by omega)
theorem lgW_le {r : Nat} {e : Int} (h1 : 4604930618986332160 ≤ r) (h2 : r < 4609434218613702656) (he : e.natAbs ≤ 256) : DLe 99 (FloatKind.f64.decode (lgW r e)) := by
  have hs := lgS_le h1 h2
  have hu := mul_le64 hs hs (by decide) (by decide)
  have hq := lgQ_le hu 13 (Nat.le_refl _)
  have h3 := mul_le64 hs hq (by decide) (by decide)
  have h4 := mul_le64 two_le h3 (by decide) (by decide)
  have h5 : DLe 0 (FloatKind.f64.decode 4604418534313441775) := by
    rw [dec_norm (by decide) (by decide)]
    exact .inr ⟨by decide, by decide⟩
  have h6 := mul_le64 (fint_le he) h5 (by decide) (by decide)
  unfold lgW
  exact (add_le64 (k := 98) (h4.up (by decide)) (h6.up (by decide)) (by decide) (by decide)).up (by decide)
theorem lgX_ok {r : Nat} (h : Mid r) : ∃ q, fconv .f64 .f32 (lgX r) = some q := by
  obtain ⟨⟨h1, h2⟩, h3, h4⟩ := lg_rng h
  unfold lgX
  exact narrow_ok (lgW_le h1 h2 (by omega)) (by decide) (by decide)
section
variable {B : Nat} {A W W' : World} {L L' : List Res}
theorem c_impl_naturalLog {r : Nat} (h : Mid r) : ACalls Try.prog B 136 [.float .f64 r] W (fun v W' => v = .float .f64 (lgX r) ∧ W' = W) := by
  obtain ⟨hm1, hm2⟩ := h
  refine acalls_of Try.func136 rfl Try.ntmps136 (Nat.le_of_ble_eq_true rfl) ?_
  repeat' (first
      | refine s_pure tabOk rfl rfl rfl rfl ?_
      | refine aops_nil ?_
      | refine thn_normal ?_
      | refine aw_seq ?_
      | refine aw_reg ?_
      | refine s_pass rfl rfl rfl ?_
      | refine s_len tabOk rfl rfl rfl rfl ?_
      | refine aw_true rfl ?_
      | refine aw_false rfl ?_
      | refine aw_block ?_
      | refine aw_skip ?_
      | refine aw_exit ?_
      | refine blk_exit ?_
      | refine blk_exit_other rfl ?_
      | refine blk_normal ?_
      | refine thn_exit ?_
      | refine thn_ret ?_
      | refine blk_ret ?_
      | refine rnd_ret ?_
      | refine rnd_exit ?_
      | refine aw_ret ?_
      | refine s_arith tabOk rfl rfl rfl rfl (by simp only [InR]; omega) ?_
      | ((fail_if_success refine s_told rfl rfl ?_); refine s_part rfl rfl rfl ?_ ?_ <;> intro hc <;> (first | replace hc := of_decide_eq_true hc | replace hc := of_decide_eq_false hc | replace hc := eq_of_beq hc | skip))
      | (refine aw_if rfl ?_ ?_ <;> intro hc <;> (first | replace hc := of_decide_eq_true hc | replace hc := of_decide_eq_false hc | replace hc := eq_of_beq hc | skip))
      | refine s_index1 tabOk rfl rfl rfl rfl (by omega) (by omega) ?_)
  refine aw_loop (fun s : Nat × Int => [(0, .float .f64 s.1), (3, .float .f64 (fint .f64 s.2))]) (fun _ => W) (fun s => (s.1 : Int) + s.2 * 4503599627370496 = r ∧ 0 ≤ s.2 ∧ 3936146074321813504 ≤ s.1 ∧ (s.2 = 0 ∨ 4604930618986332160 ≤ s.1)) (fun s => s.1) (r, 0) ⟨by dsimp only; omega, by dsimp only; omega, hm1, .inl rfl⟩ (by dsimp only; rw [fint_zero]; exact (by repeat (first | exact less_nil | refine less_cons rfl ?_))) rfl ?_
  rintro ⟨x, e⟩ ⟨q1, q2, q3, q4⟩
  dsimp only at q1 q2 q3 q4 ⊢
  repeat' (first
      | refine s_pure tabOk rfl rfl rfl rfl ?_
      | refine aops_nil ?_
      | refine thn_normal ?_
      | refine aw_seq ?_
      | refine aw_reg ?_
      | refine s_pass rfl rfl rfl ?_
      | refine s_len tabOk rfl rfl rfl rfl ?_
      | refine aw_true rfl ?_
      | refine aw_false rfl ?_
      | refine aw_block ?_
      | refine aw_skip ?_
      | refine aw_exit ?_
      | refine blk_exit ?_
      | refine blk_exit_other rfl ?_
      | refine blk_normal ?_
      | refine thn_exit ?_
      | refine thn_ret ?_
      | refine blk_ret ?_
      | refine rnd_ret ?_
      | refine rnd_exit ?_
      | refine aw_ret ?_
      | refine s_arith tabOk rfl rfl rfl rfl (by simp only [InR]; omega) ?_
      | ((fail_if_success refine s_told rfl rfl ?_); refine s_part rfl rfl rfl ?_ ?_ <;> intro hc <;> (first | replace hc := of_decide_eq_true hc | replace hc := of_decide_eq_false hc | replace hc := eq_of_beq hc | skip))
      | (refine aw_if rfl ?_ ?_ <;> intro hc <;> (first | replace hc := of_decide_eq_true hc | replace hc := of_decide_eq_false hc | replace hc := eq_of_beq hc | skip))
      | refine s_index1 tabOk rfl rfl rfl rfl (by omega) (by omega) ?_)
  · rw [geq64 (by omega) (by omega) (by decide) (by decide)] at hc
    have hx := of_decide_eq_true hc
    refine rnd_next (x - 4503599627370496, e + 1) ⟨by dsimp only; omega, by dsimp only; omega, by dsimp only; omega, .inr (by dsimp only; omega)⟩ (by dsimp only; omega) (by dsimp only; rw [← half (by omega) (by omega), ← e_add (by omega) (by omega)]; exact (by repeat (first | exact less_nil | refine less_cons rfl ?_))) rfl
  · rw [geq64 (by omega) (by omega) (by decide) (by decide)] at hc
    have hx := of_decide_eq_false hc
    clear hc
    refine aw_loop (fun s : Nat × Int => [(0, .float .f64 s.1), (3, .float .f64 (fint .f64 s.2))]) (fun _ => W) (fun s => (s.1 : Int) + s.2 * 4503599627370496 = r ∧ 3936146074321813504 ≤ s.1 ∧ s.1 < 4609434218613702656 ∧ (s.2 ≤ 0 ∨ 4604930618986332160 ≤ s.1)) (fun s => 4609434218613702656 - s.1) (x, e) ⟨q1, q3, by dsimp only; omega, by dsimp only; omega⟩ (by dsimp only; exact (by repeat (first | exact less_nil | refine less_cons rfl ?_))) rfl ?_
    clear q1 q2 q3 q4 hx
    rintro ⟨y, f⟩ ⟨q1, q2, q3, q4⟩
    dsimp only at q1 q2 q3 q4 ⊢
    repeat' (first
      | refine s_pure tabOk rfl rfl rfl rfl ?_
      | refine aops_nil ?_
      | refine thn_normal ?_
      | refine aw_seq ?_
      | refine aw_reg ?_
      | refine s_pass rfl rfl rfl ?_
      | refine s_len tabOk rfl rfl rfl rfl ?_
      | refine aw_true rfl ?_
      | refine aw_false rfl ?_
      | refine aw_block ?_
      | refine aw_skip ?_
      | refine aw_exit ?_
      | refine blk_exit ?_
      | refine blk_exit_other rfl ?_
      | refine blk_normal ?_
      | refine thn_exit ?_
      | refine thn_ret ?_
      | refine blk_ret ?_
      | refine rnd_ret ?_
      | refine rnd_exit ?_
      | refine aw_ret ?_
      | refine s_arith tabOk rfl rfl rfl rfl (by simp only [InR]; omega) ?_
      | ((fail_if_success refine s_told rfl rfl ?_); refine s_part rfl rfl rfl ?_ ?_ <;> intro hc <;> (first | replace hc := of_decide_eq_true hc | replace hc := of_decide_eq_false hc | replace hc := eq_of_beq hc | skip))
      | (refine aw_if rfl ?_ ?_ <;> intro hc <;> (first | replace hc := of_decide_eq_true hc | replace hc := of_decide_eq_false hc | replace hc := eq_of_beq hc | skip))
      | refine s_index1 tabOk rfl rfl rfl rfl (by omega) (by omega) ?_)
    · rw [lss64 (by omega) (by omega) (by decide) (by decide)] at hc
      have hx := of_decide_eq_true hc
      refine rnd_next (y + 4503599627370496, f - 1) ⟨by dsimp only; omega, by dsimp only; omega, by dsimp only; omega, by dsimp only; omega⟩ (by dsimp only; omega) (by dsimp only; rw [← twice (by omega) (by omega), ← e_sub (by omega) (by omega)]; exact (by repeat (first | exact less_nil | refine less_cons rfl ?_))) rfl
    · rw [lss64 (by omega) (by omega) (by decide) (by decide)] at hc
      have hx := of_decide_eq_false hc
      obtain ⟨g1, g2⟩ := lg_is q1 (by omega) q3
      have es : fop .quo .f64 (fop .sub .f64 y 4607182418800017408) (fop .add .f64 y 4607182418800017408) = lgS y := by unfold lgS; rfl
      rw [es]
      refine aw_loop (fun i : Nat => [(7, .int .i64 (25 - 2 * (i : Int))), (6, .float .f64 (lgQ (fop .mul .f64 (lgS y) (lgS y)) i)), (5, .float .f64 (fop .mul .f64 (lgS y) (lgS y))), (4, .float .f64 (lgS y)), (3, .float .f64 (fint .f64 f))]) (fun _ => W) (fun i => i ≤ 13) (fun i => 13 - i) 0 (by omega) (by exact (by repeat (first | exact less_nil | refine less_cons rfl ?_))) rfl ?_
      intro i hi
      repeat' (first
      | refine s_pure tabOk rfl rfl rfl rfl ?_
      | refine aops_nil ?_
      | refine thn_normal ?_
      | refine aw_seq ?_
      | refine aw_reg ?_
      | refine s_pass rfl rfl rfl ?_
      | refine s_len tabOk rfl rfl rfl rfl ?_
      | refine aw_true rfl ?_
      | refine aw_false rfl ?_
      | refine aw_block ?_
      | refine aw_skip ?_
      | refine aw_exit ?_
      | refine blk_exit ?_
      | refine blk_exit_other rfl ?_
      | refine blk_normal ?_
      | refine thn_exit ?_
      | refine thn_ret ?_
      | refine blk_ret ?_
      | refine rnd_ret ?_
      | refine rnd_exit ?_
      | refine aw_ret ?_
      | refine s_arith tabOk rfl rfl rfl rfl (by simp only [InR]; omega) ?_
      | ((fail_if_success refine s_told rfl rfl ?_); refine s_part rfl rfl rfl ?_ ?_ <;> intro hc <;> (first | replace hc := of_decide_eq_true hc | replace hc := of_decide_eq_false hc | replace hc := eq_of_beq hc | skip))
      | (refine aw_if rfl ?_ ?_ <;> intro hc <;> (first | replace hc := of_decide_eq_true hc | replace hc := of_decide_eq_false hc | replace hc := eq_of_beq hc | skip))
      | refine s_index1 tabOk rfl rfl rfl rfl (by omega) (by omega) ?_)
      · refine rnd_next (i + 1) (by omega) (by omega) (by rw [show (25 - 2 * ((i + 1 : Nat) : Int)) = 25 - 2 * (i : Int) - 2 by omega]; exact (by repeat (first | exact less_nil | refine less_cons rfl ?_))) rfl
      · have : i = 13 := by omega
        subst this
        refine retK_ret tabOk (congrArg Array.toList Try.results136) (by repeat (first | exact rv_nil | apply rv_tmp rfl rfl | apply rv_cellH (by assumption) rfl rfl rfl (by repeat (first | exact List.Mem.head _ | apply List.Mem.tail)) rfl)) ?_
        unfold lgX lgW
        rw [g1, g2]
        exact ⟨rfl, rfl⟩
/-! ### the same of 32-bit numbers -/
theorem dec64_zero : FloatKind.f64.decode 0 = .number false 0 (-1074) := by rw [dec64]; rfl
theorem dec32_zero : FloatKind.f32.decode 0 = .number false 0 (-149) := by rw [dec32]; rfl
theorem ord_zero (s : Bool) (m : Nat) (e p : Int) : (Ieee.Datum.number s m e).order (.number false 0 p) = some (if m = 0 then .eq else if s then .lt else .gt) := by
  simp only [Ieee.Datum.order]
  have h0 : ∀ a, Ieee.signed false 0 a = 0 := fun a => by unfold Ieee.signed; simp
  rw [h0]
  by_cases hm : m = 0
  · subst hm
    rw [if_pos rfl]
    have h1 : ∀ a, Ieee.signed s 0 a = 0 := fun a => by unfold Ieee.signed; simp
    rw [h1]
    exact congrArg some (Int.compare_eq_eq.2 rfl)
  · rw [if_neg hm]
    have hp : 0 < m <<< (e - min e p).toNat := by
      rw [Nat.shiftLeft_eq]
      exact Nat.mul_pos (Nat.pos_of_ne_zero hm) (Nat.pow_pos (by decide))
    unfold Ieee.signed
    generalize m <<< (e - min e p).toNat = X at *
    cases s
    · simp only [Bool.false_eq_true, if_false]
      exact congrArg some (Int.compare_eq_gt.2 (by omega))
    · simp only [if_true]
      exact congrArg some (Int.compare_eq_lt.2 (by omega))
/-- a number, made wide: of the same sign, zero if it is zero -/
theorem wide_num {x : Nat} {s : Bool} {m : Nat} {e : Int} (h : FloatKind.f32.decode x = .number s m e) : ∃ m' e', FloatKind.f64.decode (fwide x) = .number s m' e' ∧ (m' = 0 ↔ m = 0) ∧ (m ≠ 0 → s = false → Mid (fwide x)) := by
  have hw := fconv_wide x
  unfold fconv at hw
  rw [if_neg (by decide), h] at hw
  dsimp only at hw
  have hm24 : m < 16777216 ∧ -149 ≤ e ∧ e ≤ 104 := by
    rw [dec32] at h
    split at h
    · cases h; omega
    · split at h
      · cases h; omega
      · split at h <;> cases h
  have hlg : m ≠ 0 → m.log2 ≤ 23 := fun h0 => by
    apply Nat.le_of_not_lt
    intro h3
    have h4 := (Nat.le_log2 (k := 24) h0).1 (by omega)
    omega
  split at hw
  · cases hw
  · have hx := Option.some.inj hw
    by_cases h0 : m = 0
    · subst h0
      have he : FloatKind.f64.encode (.number s 0 e) = FloatKind.f64.format.word s 0 := rfl
      rw [he, cb_word64 (by decide)] at hx
      refine ⟨0, -1074, ?_, Iff.rfl, fun h => absurd rfl h⟩
      rw [← hx, word64, dec64]
      cases s <;> rfl
    · have hl := hlg h0
      obtain ⟨r, h1, h2, h3⟩ := enc_small (s := s) (p := e) h0 (by omega) (by omega) (by omega)
      have hr1 : 3936146074321813504 ≤ r := by omega
      have hr2 : r < 5183643171103440896 := by omega
      rw [h1, cb_word64 (by omega)] at hx
      have hm : (if s then 9223372036854775808 + r else r) % 9223372036854775808 = r := by split <;> omega
      have hs : ((if s then 9223372036854775808 + r else r) / 9223372036854775808 % 2 == 1) = s := by
        cases s
        · simp only [Bool.false_eq_true, if_false]
          rw [Nat.div_eq_of_lt (by omega)]; rfl
        · simp only [if_true]
          rw [show (9223372036854775808 + r) / 9223372036854775808 = 1 by omega]; rfl
      refine ⟨4503599627370496 + r % 4503599627370496, -1074 + ((r / 4503599627370496 - 1 : Nat) : Int), ?_, ⟨fun h => by omega, fun h => absurd h h0⟩, fun _ hf => ?_⟩
      · rw [← hx, word64, dec64, hm, hs, if_neg (by omega), if_pos (by omega)]
      · subst hf
        rw [← hx, word64]
        simp only [Bool.false_eq_true, if_false]
        exact ⟨hr1, hr2⟩
theorem wide_inf {x : Nat} {s : Bool} (h : FloatKind.f32.decode x = .infinity s) : FloatKind.f64.decode (fwide x) = .infinity s := by
  have hw := fconv_wide x
  unfold fconv at hw
  rw [if_neg (by decide), h] at hw
  dsimp only at hw
  rw [← Option.some.inj hw, inf_back]
theorem wide_nan {x : Nat} (h : (FloatKind.f32.decode x).isNaN = true) : fwide x = qnan .f64 := by
  have hw := fconv_wide x
  unfold fconv at hw
  rw [if_neg (by decide)] at hw
  cases hd : FloatKind.f32.decode x with
  | nan a b => rw [hd] at hw; exact (Option.some.inj hw).symm
  | number a b c => rw [hd] at h; cases h
  | infinity a => rw [hd] at h; cases h
/-- which kind a number is -/
inductive Kd (x : Nat) : Prop
  | nan (h : (FloatKind.f32.decode x).isNaN = true)
  | inf (s : Bool) (h : FloatKind.f32.decode x = .infinity s)
  | num (s : Bool) (m : Nat) (e : Int) (h : FloatKind.f32.decode x = .number s m e)
theorem kd (x : Nat) : Kd x := by
  cases h : FloatKind.f32.decode x with
  | nan a b => exact .nan (by rw [h]; rfl)
  | infinity s => exact .inf s h
  | number s m e => exact .num s m e h
@[irreducible] def logN (x : Nat) : Nat :=
  if fcmp .neq .f32 x x || fcmp .lss .f32 x 0 then qnan .f32 else if fcmp .eql .f32 x 0 then 4286578688 else if !isFin .f32 x then x else (fconv .f64 .f32 (lgX (fwide x))).getD 0
theorem wide_neq (x : Nat) : fcmp .neq .f64 (fwide x) (fwide x) = fcmp .neq .f32 x x := by
  rw [neq_self, neq_self]
  rcases kd x with h | ⟨s, h⟩ | ⟨s, m, e, h⟩
  · rw [wide_nan h, h, qnan_nan]
  · simp only [wide_inf h, h, Ieee.Datum.isNaN]
  · obtain ⟨m', e', h1, -⟩ := wide_num h
    rw [h1, h]; rfl
theorem wide_ord (x : Nat) : FloatKind.f64.format.order (fwide x) 0 = FloatKind.f32.format.order x 0 := by
  rw [show FloatKind.f64.format.order (fwide x) 0 = (FloatKind.f64.decode (fwide x)).order (FloatKind.f64.decode 0) from rfl, show FloatKind.f32.format.order x 0 = (FloatKind.f32.decode x).order (FloatKind.f32.decode 0) from rfl, dec64_zero, dec32_zero]
  rcases kd x with h | ⟨s, h⟩ | ⟨s, m, e, h⟩
  · rw [order_nan_l h, wide_nan h, order_nan_l (qnan_nan _)]
  · rw [wide_inf h, h]; rfl
  · obtain ⟨m', e', h1, h2, -⟩ := wide_num h
    rw [h1, h, ord_zero, ord_zero]
    by_cases h0 : m = 0
    · rw [if_pos h0, if_pos (h2.2 h0)]
    · rw [if_neg h0, if_neg (fun h3 => h0 (h2.1 h3))]
theorem wide_cmp (op : BinOp) (x : Nat) : fcmp op .f64 (fwide x) 0 = fcmp op .f32 x 0 := by
  unfold fcmp
  rw [wide_ord]
/-- a finite number above zero -/
theorem mid_of {x : Nat} (h1 : fcmp .neq .f32 x x = false) (h2 : fcmp .lss .f32 x 0 = false) (h3 : fcmp .eql .f32 x 0 = false) (h4 : isFin .f32 x = true) : Mid (fwide x) := by
  rw [neq_self] at h1
  rw [isFin_eq] at h4
  unfold fcmp at h2 h3
  dsimp only at h2 h3
  rw [show FloatKind.f32.format.order x 0 = (FloatKind.f32.decode x).order (FloatKind.f32.decode 0) from rfl, dec32_zero] at h2 h3
  rcases kd x with h | ⟨s, h⟩ | ⟨s, m, e, h⟩
  · rw [h] at h1; cases h1
  · rw [h] at h4; cases h4
  · obtain ⟨m', e', -, -, h5⟩ := wide_num h
    rw [h, ord_zero] at h2 h3
    by_cases h0 : m = 0
    · rw [if_pos h0] at h3; cases h3
    · rw [if_neg h0] at h2
      cases s
      · exact h5 h0 rfl
      · cases h2
end
end Go.Proofs.Ytaiebodmlnpbkaa
