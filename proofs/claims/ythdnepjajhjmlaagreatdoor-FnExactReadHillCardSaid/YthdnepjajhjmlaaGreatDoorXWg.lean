/- The library's public reading of words in base 16, once over any program: turned from the shelf's walk at base 10. -/
import Derived.Shelf.Pu.ParseUintPublic10
namespace Go.Proofs.YthdnepjajhjmlaaGreatDoor
set_option linter.unusedSimpArgs false
set_option linter.unusedVariables false
open Go Go.Shelf Go.RowKit Go.Proofs
variable {P : Program} {ρ : Ren}
/-- small digits of base 16 -/
def lhx (c : UInt8) : Bool := (decide (48 ≤ c.toNat) && decide (c.toNat ≤ 57)) || (decide (97 ≤ c.toNat) && decide (c.toNat ≤ 102))
def lhd (c : UInt8) : Nat := if c.toNat ≤ 57 then c.toNat - 48 else c.toNat - 87
def hexN : Nat → List UInt8 → Nat
  | a, [] => a
  | a, c :: r => hexN (a * 16 + lhd c) r
theorem lhd_le {c : UInt8} (h : lhx c = true) : lhd c ≤ 15 := by
  unfold lhx at h
  unfold lhd
  simp only [Bool.or_eq_true, Bool.and_eq_true, decide_eq_true_eq] at h
  split <;> omega
theorem all_drop {p : UInt8 → Bool} {l : List UInt8} {c : UInt8} {r : List UInt8} {k : Nat} (h : l.all p = true) (he : l.drop k = c :: r) : p c = true := by
  rw [List.all_eq_true] at h
  refine h c (List.mem_of_mem_drop (i := k) ?_)
  rw [he]; exact List.mem_cons_self
theorem pow_step {acc k d n : Nat} (h : acc < 16 ^ k) (hk : k + 1 ≤ n) (hn : n ≤ 8) (hd : d ≤ 15) : acc * 16 + d < 16 ^ (k + 1) ∧ acc * 16 + d ≤ 4294967295 := by
  have h1 : 16 ^ (k + 1) = 16 ^ k * 16 := Nat.pow_succ _ _
  have h2 : 16 ^ (k + 1) ≤ 16 ^ 8 := Nat.pow_le_pow_right (by omega) (by omega)
  have h3 : 16 ^ 8 = 4294967296 := by decide
  omega
theorem or_low {c : UInt8} (h0 : 97 ≤ c.toNat) (h1 : c.toNat ≤ 102) : bits .or .u8 (c.toNat : Int) 32 = (c.toNat : Int) := by
  generalize c.toNat = n at *
  have : n = 97 ∨ n = 98 ∨ n = 99 ∨ n = 100 ∨ n = 101 ∨ n = 102 := by omega
  rcases this with rfl | rfl | rfl | rfl | rfl | rfl <;> decide
def Good (bs : List UInt8) : Prop := bs.all lhx = true ∧ bs.length ≤ 8
set_option maxHeartbeats 32000000 in
set_option maxRecDepth 100000 in
/-- whatever the text: a number or a fault; at eight small digits or fewer, the number that they spell -/
theorem hex_b32 (L : LaysPu.n16 P ρ) (t : ByteArray) (hne : t.size ≠ 0) (hmax : t.size ≤ 9223372036854775806) (w : World) :
    Calls P (ρ.f 16) #[.string t, .int .i64 16, .int .i64 32] w fun e w' => (∃ r : Lib.NumEnd Nat, e = .returned (Lib.uintTupleM (ρ.t 34) 4294967295 r) ∧ (∀ u, r = .ok u → u ≤ 4294967295) ∧ (Good t.data.toList → r = .ok (hexN 0 t.data.toList))) ∧ w' = Lib.bytesWorld w (ρ.t 5) t := by
  have mixed := L.mixed
  have t9 := L.t9; have a9 := L.a9; have z9 := L.z9; have v9 := L.v9
  have t3 := L.t3; have a3 := L.a3; have z3 := L.z3; have v3 := L.v3
  have t22 := L.t22; have a22 := L.a22; have z22 := L.z22; have v22 := L.v22
  have t24 := L.t24; have a24 := L.a24; have z24 := L.z24; have v24 := L.v24
  have t4 := L.t4; have a4 := L.a4; have z4 := L.z4; have v4 := L.v4
  have t34 := L.t34; have a34 := L.a34; have z34 := L.z34; have v34 := L.v34
  have t5 := L.t5; have a5 := L.a5; have z5 := L.z5; have v5 := L.v5
  have t36 := L.t36; have a36 := L.a36; have z36 := L.z36; have v36 := L.v36
  have t37 := L.t37; have a37 := L.a37; have z37 := L.z37; have v37 := L.v37
  have t0 := L.t0; have a0 := L.a0; have z0 := L.z0; have v0 := L.v0
  have e19 : ∀ args w, (callFunc (ρ.f 19) args).run P w = .ok (.enter (ρ.f 19) args) w := enters_of L.f19 (by kernel_rfl) rfl
  have hemp : t.toList.isEmpty = false := by
    rw [← decide_eq_emptyBytes]
    exact decide_eq_false (fun h => hne (by rw [h]; rfl))
  have hcv := Lib.run_convert_string_bytes (P := P) w (ρ.t 9) (ρ.t 37) (ρ.t 5) t (u := .string) L.t9 L.t37 L.t5
  have hB : ∀ j, j < t.size → (Lib.bytesWorld w (ρ.t 5) t).cell? ⟨w.heap.size, j, none⟩ = some (.int .u8 (t.data.toList.getD j 0).toNat) := fun j hj => Lib.bytesWorld_cell w (ρ.t 5) t j hj
  obtain ⟨W1, hW1⟩ : ∃ W1, W1 = Lib.bytesWorld w (ρ.t 5) t := ⟨_, rfl⟩
  rw [← hW1] at hcv hB ⊢
  clear hW1
  obtain ⟨bs, hL⟩ : ∃ bs, bs = t.data.toList := ⟨_, rfl⟩
  have hLn : bs.length = t.size := by rw [hL, Lib.size_eq]
  rw [← hL] at hB ⊢
  clear hL
  have hmv : IntKind.u64.wrap (IntKind.u64.wrap 4294967296 - 1) = 4294967295 := by
    rw [IntKind.wrap_u64, IntKind.wrap_u64]
    decide
  go_enter L.f16, BodyPu.n16_ntmps ρ
  go_wp2
  go_loop [12, 13, 101] (fun vu vn vi => ∃ (k acc : Nat) (a : Int), vu = .bool false ∧ vn = .int .u64 a ∧ vi = .int .i64 k ∧ k ≤ t.size ∧ Hid (a = (acc : Int) ∧ acc ≤ 4294967295 ∧ (Good bs → hexN 0 bs = hexN acc (bs.drop k) ∧ acc < 16 ^ k)))
    (fun _ _ vi => t.size - (intOf vi).toNat)
  case atStart => exact ⟨0, 0, 0, rfl, rfl, rfl, by omega, rfl, by omega, fun _ => ⟨rfl, by decide⟩⟩
  case round =>
    obtain ⟨k, acc, a, rfl, rfl, rfl, hk, hh⟩ := hrel
    obtain ⟨ha, hacc, hdec⟩ := hh.out
    clear hh
    have a0 : 0 ≤ a := by omega
    have a1 : a ≤ 4294967295 := by omega
    by_cases hkn : k < t.size
    · have hc := hB k hkn
      have hdrop : bs.drop k = bs[k]'(by omega) :: bs.drop (k + 1) := List.drop_eq_getElem_cons (by omega)
      have hget : bs.getD k 0 = bs[k]'(by omega) := by simp [List.getD, List.getElem?_eq_getElem (show k < bs.length by omega)]
      rw [hget] at hc
      have hlow : Good bs → lhx (bs[k]'(by omega)) = true := fun h => all_drop h.1 hdrop
      rw [hdrop] at hdec
      generalize bs[k]'(by omega) = c at hc hdec hlow
      have hc256 : c.toNat < 256 := c.toNat_lt
      clear hB hdrop hget
      by_cases hdig : 48 ≤ c.toNat ∧ c.toNat ≤ 57
      · obtain ⟨hd0, hd1⟩ := hdig
        have hd : lhd c = c.toNat - 48 := by unfold lhd; rw [if_pos hd1]
        by_cases hov : 4294967295 < acc * 16 + (c.toNat - 48)
        · have hng : ¬ Good bs := fun h => by
            have := (pow_step (d := lhd c) (hdec h).2 (show k + 1 ≤ bs.length by omega) h.2 (lhd_le (hlow h))).2
            omega
          have iov : 4294967295 < a * 16 + ((c.toNat : Int) - 48) := by omega
          clear hacc hov ha hdec hlow hd
          go_wp2
          go_ret2
          first | exact ⟨⟨.range, rfl, (fun u hu => by cases hu)⟩, rfl⟩ | exact ⟨⟨.range, rfl, (fun u hu => by cases hu), fun h => absurd h hng⟩, rfl⟩
        · have HN : Hid (a * 16 + ((c.toNat : Int) - 48) = ((acc * 16 + (c.toNat - 48) : Nat) : Int) ∧ acc * 16 + (c.toNat - 48) ≤ 4294967295 ∧ (Good bs → hexN 0 bs = hexN (acc * 16 + (c.toNat - 48)) (bs.drop (k + 1)) ∧ acc * 16 + (c.toNat - 48) < 16 ^ (k + 1))) := Lib.hid ⟨by omega, by omega, fun h => by
            obtain ⟨g1, g2⟩ := hdec h
            have := (pow_step (d := lhd c) g2 (show k + 1 ≤ bs.length by omega) h.2 (lhd_le (hlow h))).1
            rw [hd] at this
            refine ⟨?_, this⟩
            rw [g1, ← hd]; rfl⟩
          have iov : a * 16 + ((c.toNat : Int) - 48) ≤ 4294967295 := by omega
          clear hacc hov hdec ha hlow hd
          go_wp2
          refine ⟨⟨k + 1, acc * 16 + (c.toNat - 48), a * 16 + ((c.toNat : Int) - 48), rfl, (by first | rfl | (congr 1; omega)), (by first | rfl | (congr 1; omega)), by omega, HN⟩, by simp [intOf]; omega⟩
      · have hv0 := bits_lo_u8 .or (c.toNat : Int) 32
        have hv1 := bits_hi_u8 .or (c.toNat : Int) 32
        have hu0 := bits_lo_u8 .or 95 32
        have hu1 := bits_hi_u8 .or 95 32
        have hgx : Good bs → (97 ≤ c.toNat ∧ c.toNat ≤ 102) := fun h => by
          have := hlow h
          unfold lhx at this
          simp only [Bool.or_eq_true, Bool.and_eq_true, decide_eq_true_eq] at this
          rcases this with h1 | h1
          · exact absurd h1 hdig
          · exact h1
        have hgd : Good bs → lhd c = c.toNat - 87 := fun h => by
          have := hgx h
          unfold lhd
          rw [if_neg (by omega)]
        have hgl : Good bs → bits .or .u8 (c.toNat : Int) 32 = (c.toNat : Int) := fun h => or_low (hgx h).1 (hgx h).2
        obtain ⟨x, hx⟩ : ∃ x, x = bits .or .u8 (c.toNat : Int) 32 := ⟨_, rfl⟩
        rw [← hx] at hv0 hv1 hgl
        by_cases hxx : 97 ≤ x ∧ x ≤ 102
        · obtain ⟨hx0, hx1⟩ := hxx
          have hne95 : c.toNat ≠ 95 := by
            intro h95
            rw [h95] at hx
            have : bits .or .u8 ((95 : Nat) : Int) 32 = 127 := by decide
            omega
          obtain ⟨d, hd⟩ : ∃ d : Nat, x = ((d + 87 : Nat) : Int) := ⟨(x - 87).toNat, by omega⟩
          have hdg : Good bs → d = lhd c := fun h => by
            have h1 := hgl h
            have h2 := hgd h
            have h3 := hgx h
            omega
          by_cases hov : 4294967295 < acc * 16 + d
          · have hng : ¬ Good bs := fun h => by
              have := (pow_step (d := lhd c) (hdec h).2 (show k + 1 ≤ bs.length by omega) h.2 (lhd_le (hlow h))).2
              rw [← hdg h] at this
              omega
            have iov : 4294967295 < a * 16 + (x - 87) := by omega
            clear hacc hov ha hdec hlow hgx hgd hgl hd hdg
            go_wp2_with (go_at_fn (ρ.f 19); refine (AnyPu.internal_strconv_lower { L with } _ _).mono ?_; rintro e w' ⟨rfl, rfl⟩; try rw [← hx])
            all_goals go_ret2
            all_goals first | exact ⟨⟨.range, rfl, (fun u hu => by cases hu)⟩, rfl⟩ | exact ⟨⟨.range, rfl, (fun u hu => by cases hu), fun h => absurd h hng⟩, rfl⟩
          · have HN : Hid (a * 16 + (x - 87) = ((acc * 16 + d : Nat) : Int) ∧ acc * 16 + d ≤ 4294967295 ∧ (Good bs → hexN 0 bs = hexN (acc * 16 + d) (bs.drop (k + 1)) ∧ acc * 16 + d < 16 ^ (k + 1))) := Lib.hid ⟨by omega, by omega, fun h => by
              obtain ⟨g1, g2⟩ := hdec h
              have := (pow_step (d := lhd c) g2 (show k + 1 ≤ bs.length by omega) h.2 (lhd_le (hlow h))).1
              rw [hdg h]
              refine ⟨?_, this⟩
              rw [g1]; rfl⟩
            have iov : a * 16 + (x - 87) ≤ 4294967295 := by omega
            clear hacc hov hdec ha hlow hgx hgd hgl hd hdg
            go_wp2_with (go_at_fn (ρ.f 19); refine (AnyPu.internal_strconv_lower { L with } _ _).mono ?_; rintro e w' ⟨rfl, rfl⟩; try rw [← hx])
            all_goals refine ⟨⟨k + 1, acc * 16 + d, a * 16 + (x - 87), rfl, (by first | rfl | (congr 1; omega)), (by first | rfl | (congr 1; omega)), by omega, HN⟩, by simp [intOf]; omega⟩
        · have hng : ¬ Good bs := fun h => by
            have h1 := hgl h
            have h3 := hgx h
            omega
          have hxo : x < 97 ∨ 102 < x := by omega
          clear hacc ha hdec hlow hgx hgd hgl hxx
          go_wp2_with (go_at_fn (ρ.f 19); refine (AnyPu.internal_strconv_lower { L with } _ _).mono ?_; rintro e w' ⟨rfl, rfl⟩; try rw [← hx])
          all_goals go_ret2
          all_goals first | exact ⟨⟨Lib.NumEnd.syntax, rfl, (fun u hu => by cases hu)⟩, rfl⟩ | exact ⟨⟨Lib.NumEnd.syntax, rfl, (fun u hu => by cases hu), fun h => absurd h hng⟩, rfl⟩
    · have hkk : k = t.size := by omega
      subst hkk
      subst ha
      have hd : bs.drop t.size = [] := List.drop_eq_nil_of_le (by omega)
      rw [hd] at hdec
      have hokg : Good bs → (Lib.NumEnd.ok acc : Lib.NumEnd Nat) = .ok (hexN 0 bs) := fun h => by rw [(hdec h).1]; rfl
      have hokb : ∀ u, (Lib.NumEnd.ok acc : Lib.NumEnd Nat) = .ok u → u ≤ 4294967295 := fun u hu => by cases hu; exact hacc
      clear hacc a0 a1 hdec hd
      go_wp2
      go_ret2
      exact ⟨⟨.ok acc, rfl, hokb, hokg⟩, rfl⟩
end Go.Proofs.YthdnepjajhjmlaaGreatDoor
namespace Go.Proofs.YthdnepjajhjmlaaGreatDoor
set_option linter.unusedSimpArgs false
set_option linter.unusedVariables false
open Go Go.Shelf Go.RowKit Go.Proofs
variable {P : Program} {ρ : Ren}
def GoodS (s : ByteArray) : Prop := s.size ≠ 0 ∧ Good s.data.toList
theorem hex_any (L : LaysPu.n16 P ρ) (s : ByteArray) (hmax : s.size ≤ 9223372036854775806) (w : World) :
    Calls P (ρ.f 16) #[.string s, .int .i64 16, .int .i64 32] w fun e w' => ((∃ u : Nat, u ≤ 4294967295 ∧ e = .returned (.tuple #[.int .u64 u, .nilIface]) ∧ (GoodS s → u = hexN 0 s.data.toList)) ∨ (¬ GoodS s ∧ e = .returned (.tuple #[.int .u64 0, .iface (ρ.t 34) (.int .i64 2)])) ∨ (¬ GoodS s ∧ e = .returned (.tuple #[.int .u64 4294967295, .iface (ρ.t 34) (.int .i64 1)]))) ∧ (w' = w ∨ w' = Lib.bytesWorld w (ρ.t 5) s) := by
  by_cases hne : s.size = 0
  · have hs : s = ⟨#[]⟩ := by
      obtain ⟨d⟩ := s
      have : d.size = 0 := hne
      rw [Array.size_eq_zero_iff.1 this]
    subst hs
    refine (AnyPu.internal_strconv_ParseUint_empty L 16 32 w).mono ?_
    rintro e w' ⟨rfl, rfl⟩
    exact ⟨.inr (.inl ⟨fun h => h.1 rfl, rfl⟩), .inl rfl⟩
  · refine (hex_b32 L s hne hmax w).mono ?_
    rintro e w' ⟨⟨r, rfl, h1, h2⟩, rfl⟩
    refine ⟨?_, .inr rfl⟩
    rcases r with u | _ | _
    · exact .inl ⟨u, h1 u rfl, rfl, fun h => by have := h2 h.2; injection this⟩
    · exact .inr (.inl ⟨(fun h => by have := h2 h.2; cases this), rfl⟩)
    · exact .inr (.inr ⟨(fun h => by have := h2 h.2; cases this), rfl⟩)
set_option maxHeartbeats 8000000 in
set_option maxRecDepth 100000 in
theorem hex_pub (L : LaysPu.n14 P ρ) (s : ByteArray) (hlim : s.size ≤ 281474976710656) (es er : Value) (w : World)
    (hs : w.cell? ⟨(ρ.g 0), 0, none⟩ = some es) (hes : es = .nilIface ∨ ∃ te pe, es = .iface te pe) (hr : w.cell? ⟨(ρ.g 1), 0, none⟩ = some er) (her : er = .nilIface ∨ ∃ te pe, er = .iface te pe) :
    Calls P (ρ.f 14) #[.string s, .int .i64 16, .int .i64 32] w fun e w' => (∃ (u : Nat) (f : Value), u ≤ 4294967295 ∧ e = .returned (.tuple #[.int .u64 u, f]) ∧ ((f = .nilIface ∧ (GoodS s → u = hexN 0 s.data.toList)) ∨ (¬ GoodS s ∧ ∃ N, f = .iface (ρ.t 39) (.pointer (some ⟨N, 0, none⟩))))) ∧ Below w.heap.size w w' := by
  have mixed := L.mixed
  have t9 := L.t9; have a9 := L.a9; have z9 := L.z9; have v9 := L.v9
  have t3 := L.t3; have a3 := L.a3; have z3 := L.z3; have v3 := L.v3
  have t22 := L.t22; have a22 := L.a22; have z22 := L.z22; have v22 := L.v22
  have t24 := L.t24; have a24 := L.a24; have z24 := L.z24; have v24 := L.v24
  have t25 := L.t25; have a25 := L.a25; have z25 := L.z25; have v25 := L.v25
  have t4 := L.t4; have a4 := L.a4; have z4 := L.z4; have v4 := L.v4
  have e16 : ∀ args w, (callFunc (ρ.f 16) args).run P w = .ok (.enter (ρ.f 16) args) w := enters_of L.f16 (by kernel_rfl) rfl
  have e17 : ∀ args w, (callFunc (ρ.f 17) args).run P w = .ok (.enter (ρ.f 17) args) w := enters_of L.f17 (by kernel_rfl) rfl
  have hGs : (ρ.g 0) < w.heap.size := Lib.lt_of_cell hs
  have hGr : (ρ.g 1) < w.heap.size := Lib.lt_of_cell hr
  have hI := hex_any { L with } s (by omega) w
  go_enter L.f14, BodyPu.n14_ntmps ρ
  go_wp2_with (go_at_fn (ρ.f 16); refine hI.mono ?_)
  rintro e W1 ⟨he, hW⟩
  have hb1 : Below w.heap.size w W1 := by
    rcases hW with rfl | rfl
    · exact Below.refl _ _
    · exact Lib.bytesWorld_below _ _ _
  have hs1 : W1.cell? ⟨(ρ.g 0), 0, none⟩ = some es := (hb1.cell (show (⟨(ρ.g 0), 0, none⟩ : Addr).block < w.heap.size from hGs)).trans hs
  have hr1 : W1.cell? ⟨(ρ.g 1), 0, none⟩ = some er := (hb1.cell (show (⟨(ρ.g 1), 0, none⟩ : Addr).block < w.heap.size from hGr)).trans hr
  clear hW hI
  rcases he with ⟨u, hu, rfl, hg⟩ | ⟨hg, rfl⟩ | ⟨hg, rfl⟩
  · go_wp2
    go_ret2
    exact ⟨⟨u, .nilIface, hu, rfl, .inl ⟨rfl, hg⟩⟩, hb1⟩
  · go_wp2_with (go_at_fn (ρ.f 17); refine (AnyPu.strconv_toError_syntax { L with } ⟨#[80, 97, 114, 115, 101, 85, 105, 110, 116]⟩ s 16 32 es _ hlim ?_ hes).mono ?_)
    · exact hs1
    rintro e W2 ⟨N, rfl, h1, h2, h3⟩
    go_wp2
    go_ret2
    exact ⟨⟨0, _, by omega, rfl, .inr ⟨hg, N, rfl⟩⟩, hb1.trans (h3.mono hb1.size)⟩
  · go_wp2_with (go_at_fn (ρ.f 17); refine (AnyPu.strconv_toError_range { L with } ⟨#[80, 97, 114, 115, 101, 85, 105, 110, 116]⟩ s 16 32 er _ hlim ?_ her).mono ?_)
    · exact hr1
    rintro e W2 ⟨N, rfl, h1, h2, h3⟩
    go_wp2
    go_ret2
    exact ⟨⟨4294967295, _, by omega, rfl, .inr ⟨hg, N, rfl⟩⟩, hb1.trans (h3.mono hb1.size)⟩
end Go.Proofs.YthdnepjajhjmlaaGreatDoor
