/- Rivers copied. -/
import Derived.Test.YtgkmonllkfgbdaaRc
namespace Go.Proofs.Ytgkmonllkfgbdaa
set_option linter.unusedSimpArgs false
set_option linter.unusedVariables false
open Go Cn Go.RowKit
structure Riv where
  ds : List Int
  dm : List Dm
  ws : List Int
abbrev rvV (p1 : Option Addr) (k1 : Nat) (p2 : Option Addr) (k2 : Nat) (p3 : Option Addr) (k3 : Nat) (r : Riv) : Value := .agg #[.slice p1 r.ds.length k1, .slice p2 r.dm.length k2, .slice p3 r.ws.length k3]
abbrev rvC (p1 : Option Addr) (k1 : Nat) (p2 : Option Addr) (k2 : Nat) (p3 : Option Addr) (k3 : Nat) (r : Riv) : List Value := [.slice p1 r.ds.length k1, .slice p2 r.dm.length k2, .slice p3 r.ws.length k3]
abbrev rvR (p1 : Option Addr) (k1 : Nat) (p2 : Option Addr) (k2 : Nat) (p3 : Option Addr) (k3 : Nat) (r : Riv) : List Res :=
  [.row 2 1 (.slice p1 r.ds.length k1) r.ds.length (iC r.ds), .row 75 4 (.slice p2 r.dm.length k2) r.dm.length (dCs r.dm), .row 2 1 (.slice p3 r.ws.length k3) r.ws.length (iC r.ws)]
/-- what is read of a river -/
structure RvS (W : World) (p1 : Option Addr) (k1 : Nat) (p2 : Option Addr) (k2 : Nat) (p3 : Option Addr) (k3 : Nat) (r : Riv) : Prop where
  d : SlI W (.slice p1 r.ds.length k1) r.ds
  m : SlD W (.slice p2 r.dm.length k2) r.dm
  w : SlI W (.slice p3 r.ws.length k3) r.ws
def Riv.small (r : Riv) : Prop := r.ds.length ≤ 1048576 ∧ r.dm.length ≤ 1048576 ∧ r.ws.length ≤ 1048576
section
variable {B : Nat} {A W W' : World} {L L' : List Res} {p1 p2 p3 : Option Addr} {k1 k2 k3 : Nat} {r : Riv}
theorem RvS.below (h : RvS A p1 k1 p2 k2 p3 k3 r) (hb : Below A.heap.size A W) : RvS W p1 k1 p2 k2 p3 k3 r := ⟨h.d.below hb, SlD.below h.m hb, h.w.below hb⟩
theorem Hp.rvA (H : Hp B A W L) (h : RvS A p1 k1 p2 k2 p3 k3 r) : RvS W p1 k1 p2 k2 p3 k3 r := h.below H.below
theorem Hp.rv (H : Hp B A W L) (h1 : Res.row 2 1 (.slice p1 r.ds.length k1) r.ds.length (iC r.ds) ∈ L) (h2 : Res.row 75 4 (.slice p2 r.dm.length k2) r.dm.length (dCs r.dm) ∈ L) (h3 : Res.row 2 1 (.slice p3 r.ws.length k3) r.ws.length (iC r.ws) ∈ L) : RvS W p1 k1 p2 k2 p3 k3 r := ⟨H.sli h1, Hp.sld H h2, H.sli h3⟩
theorem blk_below {b : Nat} {cs : List Value} {e : TypeId} (h : (Res.blk b cs e).ok A) (hb : Below A.heap.size A W) : (Res.blk b cs e).ok W := ⟨h.1.grow hb, h.2⟩
theorem c_impl_River_cloned (hB : B ≤ W.heap.size) (hv : RvS W p1 k1 p2 k2 p3 k3 r) (hs : r.small) :
    ACalls Try.prog B 65 [rvV p1 k1 p2 k2 p3 k3 r] W (fun v W' => ∃ p1 k1 p2 k2 p3 k3, v = rvV p1 k1 p2 k2 p3 k3 r ∧ Hp B W W' (rvR p1 k1 p2 k2 p3 k3 r)) := by
  have H0 : Hp B W W [] := Hp.new hB
  obtain ⟨s1, s2, s3⟩ := hs
  refine acalls_of Try.func65 rfl Try.ntmps65 (Nat.le_of_ble_eq_true rfl) ?_
  repeat' (first | refine s_pure tabOk rfl rfl rfl rfl ?_ | refine Stp.imp ?_ | refine aops_nil ?_ | refine aw_reg ?_ | refine aw_seq ?_ | refine s_pass rfl rfl rfl ?_ | refine s_len tabOk rfl rfl rfl rfl ?_ | refine aw_true rfl ?_ | refine aw_false rfl ?_ | refine blk_exit_other rfl ?_ | refine s_arith tabOk rfl rfl rfl rfl (by simp only [InR]; omega) ?_ | ((first | ((fail_if_success refine s_told rfl rfl ?_); refine s_part rfl rfl rfl ?_ ?_) | refine aw_if rfl ?_ ?_) <;> intro hc <;> (first | replace hc := DecT.imp hc | simp only [decs] at hc | skip)) | refine s_index1n tabOk rfl rfl rfl rfl (by omega) ?_ | refine s_indexn tabOk rfl rfl rfl rfl (by omega) ?_ | refine s_index1 tabOk rfl rfl rfl rfl (by omega) (by omega) ?_ | refine sh_load tabOk (by assumption) rfl rfl rfl rfl (by repeat (first | exact List.Mem.head _ | apply List.Mem.tail)) (by rfl) (by rfl) ?_ | refine sh_loada tabOk (by assumption) rfl rfl rfl rfl (by repeat (first | exact List.Mem.head _ | apply List.Mem.tail)) (by rfl) ?_ | (refine sh_box (by assumption) rfl rfl rfl rfl rfl rfl ?_; intro _ _ _) | (refine sh_alloc tabOk (by assumption) rfl rfl rfl rfl rfl rfl ?_; intro _ _ _) | (refine sh_store tabOk (by assumption) rfl rfl rfl rfl rfl rfl (by repeat (first | exact Upd.here | apply Upd.there)) (by rfl) ?_; intro _ _) | (refine sh_lit tabOk (by assumption) rfl rfl rfl rfl rfl rfl rfl rfl rfl rfl rfl ?_; intro _ _ _) | refine sh_build tabOk rfl rfl rfl rfl rfl rfl ?_)
  rename_i b1 W1 H1 b2 W2 H2
  have hs1 : ∀ {W' : World} {L' : List Res}, Hp B W W' L' → SlV W' 1 (.slice p1 r.ds.length k1) r.ds.length (iC r.ds) := fun H => H.sliA hv.d
  have hs2 : ∀ {W' : World} {L' : List Res}, Hp B W W' L' → SlV W' 4 (.slice p2 r.dm.length k2) r.dm.length (dCs r.dm) := fun H => Hp.sldA H hv.m
  have hs3 : ∀ {W' : World} {L' : List Res}, Hp B W W' L' → SlV W' 1 (.slice p3 r.ws.length k3) r.ws.length (iC r.ws) := fun H => H.sliA hv.w
  refine aw_cut (A := W) (fun x : Option Addr × Nat × Option Addr × Nat × Option Addr × Nat => [(2, .pointer (some ⟨b2, 0, none⟩))])
    (fun x => .blk b2 [.slice x.1 r.ds.length x.2.1, .slice x.2.2.1 r.dm.length x.2.2.2.1, .slice x.2.2.2.2.1 r.ws.length x.2.2.2.2.2] 29 :: rvR x.1 x.2.1 x.2.2.1 x.2.2.2.1 x.2.2.2.2.1 x.2.2.2.2.2 r) ?_ ?_
  · refine aw_told followsMixed (DH B W [.blk b1 (rvC p1 k1 p2 k2 p3 k3 r) _]) [1, 2, 5, 6, 9, 10, 0, 4, 8, 3, 7, 11, 12, 13] (by kernel_rfl) (H2.picks (by repeat (first | exact Picks.nil | (apply Picks.cons; (repeat (first | exact Pick.here | apply Pick.there)))))) ?_
    repeat (first | refine so_pure tabOk lx rfl rfl rfl rfl (by kernel_rfl) ?_ | refine so_load' tabOk lx rfl rfl rfl rfl (by repeat (first | exact List.Mem.head _ | apply List.Mem.tail)) (by rfl) (by rfl) (by kernel_rfl) ?_ | refine so_loada' tabOk lx rfl rfl rfl rfl (by repeat (first | exact List.Mem.head _ | apply List.Mem.tail)) (by rfl) (by kernel_rfl) ?_ | refine so_len tabOk lx rfl rfl rfl rfl (by kernel_rfl) ?_ | refine so_build' tabOk lx rfl rfl rfl rfl rfl rfl (by kernel_rfl) ?_ | refine so_index1n tabOk lx rfl rfl rfl rfl (by omega) (by kernel_rfl) ?_ | refine so_indexn tabOk lx rfl rfl rfl rfl (by omega) (by kernel_rfl) ?_ | refine so_index1 tabOk lx rfl rfl rfl rfl (by omega) (by omega) (by kernel_rfl) ?_ | refine so_pass lx rfl rfl rfl (by kernel_rfl) ?_ | refine so_arith tabOk lx rfl rfl rfl rfl (by simp only [InR]; omega) (by kernel_rfl) ?_)
    refine so_all [0, 4, 8] (by kernel_rfl) (x_one ?_ (x_one ?_ (x_one ?_ x_none)))
    · refine th_lit tabOk (by assumption) [3, 4, 8, 7, 11, 12, 13] (by kernel_rfl) rfl rfl rfl rfl rfl rfl rfl rfl rfl rfl rfl (fun _ => (by repeat (first | exact List.nil_sublist _ | refine List.Sublist.cons_cons _ ?_ | refine List.Sublist.cons _ ?_))) ?_
      intro b0 W0 H0
      refine so_all [3, 4, 8] (by kernel_rfl) (x_one ?_ (x_one ?_ (x_one ?_ x_none)))
      · refine th_append tabOk (by assumption) [4, 8, 7, 11, 12, 13] (by kernel_rfl) rfl rfl rfl rfl rfl rfl rfl rfl rfl (fun _ _ => (by repeat (first | exact Upd.here | apply Upd.there))) (hs1 (by assumption)) (by omega) (fun _ _ => (by repeat (first | exact List.nil_sublist _ | refine List.Sublist.cons_cons _ ?_ | refine List.Sublist.cons _ ?_))) ?_
        intro ad3 cp3 W3 H3
        simp only [Nat.zero_add, List.nil_append] at H3 ⊢
        refine so_all [4, 8] (by kernel_rfl) (x_one ?_ (x_one ?_ x_none))
        · refine th_lit tabOk (by assumption) [7, 8, 11, 12, 13] (by kernel_rfl) rfl rfl rfl rfl rfl rfl rfl rfl rfl rfl rfl (fun _ => (by repeat (first | exact List.nil_sublist _ | refine List.Sublist.cons_cons _ ?_ | refine List.Sublist.cons _ ?_))) ?_
          intro b4 W4 H4
          refine so_all [7, 8] (by kernel_rfl) (x_one ?_ (x_one ?_ x_none))
          · refine th_append tabOk (by assumption) [8, 11, 12, 13] (by kernel_rfl) rfl rfl rfl rfl rfl rfl rfl rfl rfl (fun _ _ => (by repeat (first | exact Upd.here | apply Upd.there))) (hs2 (by assumption)) (by omega) (fun _ _ => (by repeat (first | exact List.nil_sublist _ | refine List.Sublist.cons_cons _ ?_ | refine List.Sublist.cons _ ?_))) ?_
            intro ad7 cp7 W7 H7
            simp only [Nat.zero_add, List.nil_append] at H7 ⊢
            refine so_single (by kernel_rfl) (th_lit tabOk (by assumption) [11, 12, 13] (by kernel_rfl) rfl rfl rfl rfl rfl rfl rfl rfl rfl rfl rfl (fun _ => (by repeat (first | exact List.nil_sublist _ | refine List.Sublist.cons_cons _ ?_ | refine List.Sublist.cons _ ?_))) ?_)
            intro b8 W8 H8
            refine so_single (by kernel_rfl) (th_append tabOk (by assumption) [12, 13] (by kernel_rfl) rfl rfl rfl rfl rfl rfl rfl rfl rfl (fun _ _ => (by repeat (first | exact Upd.here | apply Upd.there))) (hs3 (by assumption)) (by omega) (fun _ _ => (by repeat (first | exact List.nil_sublist _ | refine List.Sublist.cons_cons _ ?_ | refine List.Sublist.cons _ ?_))) ?_)
            intro ad11 cp11 W11 H11
            simp only [Nat.zero_add, List.nil_append] at H11 ⊢
            repeat (first | refine so_pure tabOk lx rfl rfl rfl rfl (by kernel_rfl) ?_ | refine so_load' tabOk lx rfl rfl rfl rfl (by repeat (first | exact List.Mem.head _ | apply List.Mem.tail)) (by rfl) (by rfl) (by kernel_rfl) ?_ | refine so_loada' tabOk lx rfl rfl rfl rfl (by repeat (first | exact List.Mem.head _ | apply List.Mem.tail)) (by rfl) (by kernel_rfl) ?_ | refine so_len tabOk lx rfl rfl rfl rfl (by kernel_rfl) ?_ | refine so_build' tabOk lx rfl rfl rfl rfl rfl rfl (by kernel_rfl) ?_ | refine so_index1n tabOk lx rfl rfl rfl rfl (by omega) (by kernel_rfl) ?_ | refine so_indexn tabOk lx rfl rfl rfl rfl (by omega) (by kernel_rfl) ?_ | refine so_index1 tabOk lx rfl rfl rfl rfl (by omega) (by omega) (by kernel_rfl) ?_ | refine so_pass lx rfl rfl rfl (by kernel_rfl) ?_ | refine so_arith tabOk lx rfl rfl rfl rfl (by simp only [InR]; omega) (by kernel_rfl) ?_)
            refine so_single (by kernel_rfl) (th_store tabOk (by assumption) (by simp [cv, Cn.c1, cl]) [] (by kernel_rfl) rfl rfl rfl rfl rfl rfl (by repeat (first | exact Upd.here | apply Upd.there)) (by rfl) (by repeat (first | exact List.nil_sublist _ | refine List.Sublist.cons_cons _ ?_ | refine List.Sublist.cons _ ?_)) ?_)
            intro W13 H13
            refine so_done ?_
            exact mid_done (ad3, cp3, ad7, cp7, ad11, cp11) (by exact (by repeat (first | exact less_nil | refine less_cons rfl ?_))) (by dsimp only; exact Hp.picks (by assumption) (by repeat (first | exact Picks.nil | (apply Picks.cons; (repeat (first | exact Pick.here | apply Pick.there))))))
          · refine th_lit tabOk (by assumption) [7, 11, 12, 13] (by kernel_rfl) rfl rfl rfl rfl rfl rfl rfl rfl rfl rfl rfl (fun _ => (by repeat (first | exact List.nil_sublist _ | refine List.Sublist.cons_cons _ ?_ | refine List.Sublist.cons _ ?_))) ?_
            intro b8 W8 H8
            refine so_single (by kernel_rfl) (th_append tabOk (by assumption) [11, 12, 13] (by kernel_rfl) rfl rfl rfl rfl rfl rfl rfl rfl rfl (fun _ _ => (by repeat (first | exact Upd.here | apply Upd.there))) (hs2 (by assumption)) (by omega) (fun _ _ => (by repeat (first | exact List.nil_sublist _ | refine List.Sublist.cons_cons _ ?_ | refine List.Sublist.cons _ ?_))) ?_)
            intro ad7 cp7 W7 H7
            simp only [Nat.zero_add, List.nil_append] at H7 ⊢
            refine so_single (by kernel_rfl) (th_append tabOk (by assumption) [12, 13] (by kernel_rfl) rfl rfl rfl rfl rfl rfl rfl rfl rfl (fun _ _ => (by repeat (first | exact Upd.here | apply Upd.there))) (hs3 (by assumption)) (by omega) (fun _ _ => (by repeat (first | exact List.nil_sublist _ | refine List.Sublist.cons_cons _ ?_ | refine List.Sublist.cons _ ?_))) ?_)
            intro ad11 cp11 W11 H11
            simp only [Nat.zero_add, List.nil_append] at H11 ⊢
            repeat (first | refine so_pure tabOk lx rfl rfl rfl rfl (by kernel_rfl) ?_ | refine so_load' tabOk lx rfl rfl rfl rfl (by repeat (first | exact List.Mem.head _ | apply List.Mem.tail)) (by rfl) (by rfl) (by kernel_rfl) ?_ | refine so_loada' tabOk lx rfl rfl rfl rfl (by repeat (first | exact List.Mem.head _ | apply List.Mem.tail)) (by rfl) (by kernel_rfl) ?_ | refine so_len tabOk lx rfl rfl rfl rfl (by kernel_rfl) ?_ | refine so_build' tabOk lx rfl rfl rfl rfl rfl rfl (by kernel_rfl) ?_ | refine so_index1n tabOk lx rfl rfl rfl rfl (by omega) (by kernel_rfl) ?_ | refine so_indexn tabOk lx rfl rfl rfl rfl (by omega) (by kernel_rfl) ?_ | refine so_index1 tabOk lx rfl rfl rfl rfl (by omega) (by omega) (by kernel_rfl) ?_ | refine so_pass lx rfl rfl rfl (by kernel_rfl) ?_ | refine so_arith tabOk lx rfl rfl rfl rfl (by simp only [InR]; omega) (by kernel_rfl) ?_)
            refine so_single (by kernel_rfl) (th_store tabOk (by assumption) (by simp [cv, Cn.c1, cl]) [] (by kernel_rfl) rfl rfl rfl rfl rfl rfl (by repeat (first | exact Upd.here | apply Upd.there)) (by rfl) (by repeat (first | exact List.nil_sublist _ | refine List.Sublist.cons_cons _ ?_ | refine List.Sublist.cons _ ?_)) ?_)
            intro W13 H13
            refine so_done ?_
            exact mid_done (ad3, cp3, ad7, cp7, ad11, cp11) (by exact (by repeat (first | exact less_nil | refine less_cons rfl ?_))) (by dsimp only; exact Hp.picks (by assumption) (by repeat (first | exact Picks.nil | (apply Picks.cons; (repeat (first | exact Pick.here | apply Pick.there))))))
        · refine th_lit tabOk (by assumption) [4, 7, 11, 12, 13] (by kernel_rfl) rfl rfl rfl rfl rfl rfl rfl rfl rfl rfl rfl (fun _ => (by repeat (first | exact List.nil_sublist _ | refine List.Sublist.cons_cons _ ?_ | refine List.Sublist.cons _ ?_))) ?_
          intro b8 W8 H8
          refine so_single (by kernel_rfl) (th_lit tabOk (by assumption) [7, 11, 12, 13] (by kernel_rfl) rfl rfl rfl rfl rfl rfl rfl rfl rfl rfl rfl (fun _ => (by repeat (first | exact List.nil_sublist _ | refine List.Sublist.cons_cons _ ?_ | refine List.Sublist.cons _ ?_))) ?_)
          intro b4 W4 H4
          refine so_single (by kernel_rfl) (th_append tabOk (by assumption) [11, 12, 13] (by kernel_rfl) rfl rfl rfl rfl rfl rfl rfl rfl rfl (fun _ _ => (by repeat (first | exact Upd.here | apply Upd.there))) (hs2 (by assumption)) (by omega) (fun _ _ => (by repeat (first | exact List.nil_sublist _ | refine List.Sublist.cons_cons _ ?_ | refine List.Sublist.cons _ ?_))) ?_)
          intro ad7 cp7 W7 H7
          simp only [Nat.zero_add, List.nil_append] at H7 ⊢
          refine so_single (by kernel_rfl) (th_append tabOk (by assumption) [12, 13] (by kernel_rfl) rfl rfl rfl rfl rfl rfl rfl rfl rfl (fun _ _ => (by repeat (first | exact Upd.here | apply Upd.there))) (hs3 (by assumption)) (by omega) (fun _ _ => (by repeat (first | exact List.nil_sublist _ | refine List.Sublist.cons_cons _ ?_ | refine List.Sublist.cons _ ?_))) ?_)
          intro ad11 cp11 W11 H11
          simp only [Nat.zero_add, List.nil_append] at H11 ⊢
          repeat (first | refine so_pure tabOk lx rfl rfl rfl rfl (by kernel_rfl) ?_ | refine so_load' tabOk lx rfl rfl rfl rfl (by repeat (first | exact List.Mem.head _ | apply List.Mem.tail)) (by rfl) (by rfl) (by kernel_rfl) ?_ | refine so_loada' tabOk lx rfl rfl rfl rfl (by repeat (first | exact List.Mem.head _ | apply List.Mem.tail)) (by rfl) (by kernel_rfl) ?_ | refine so_len tabOk lx rfl rfl rfl rfl (by kernel_rfl) ?_ | refine so_build' tabOk lx rfl rfl rfl rfl rfl rfl (by kernel_rfl) ?_ | refine so_index1n tabOk lx rfl rfl rfl rfl (by omega) (by kernel_rfl) ?_ | refine so_indexn tabOk lx rfl rfl rfl rfl (by omega) (by kernel_rfl) ?_ | refine so_index1 tabOk lx rfl rfl rfl rfl (by omega) (by omega) (by kernel_rfl) ?_ | refine so_pass lx rfl rfl rfl (by kernel_rfl) ?_ | refine so_arith tabOk lx rfl rfl rfl rfl (by simp only [InR]; omega) (by kernel_rfl) ?_)
          refine so_single (by kernel_rfl) (th_store tabOk (by assumption) (by simp [cv, Cn.c1, cl]) [] (by kernel_rfl) rfl rfl rfl rfl rfl rfl (by repeat (first | exact Upd.here | apply Upd.there)) (by rfl) (by repeat (first | exact List.nil_sublist _ | refine List.Sublist.cons_cons _ ?_ | refine List.Sublist.cons _ ?_)) ?_)
          intro W13 H13
          refine so_done ?_
          exact mid_done (ad3, cp3, ad7, cp7, ad11, cp11) (by exact (by repeat (first | exact less_nil | refine less_cons rfl ?_))) (by dsimp only; exact Hp.picks (by assumption) (by repeat (first | exact Picks.nil | (apply Picks.cons; (repeat (first | exact Pick.here | apply Pick.there))))))
      · refine th_lit tabOk (by assumption) [3, 8, 7, 11, 12, 13] (by kernel_rfl) rfl rfl rfl rfl rfl rfl rfl rfl rfl rfl rfl (fun _ => (by repeat (first | exact List.nil_sublist _ | refine List.Sublist.cons_cons _ ?_ | refine List.Sublist.cons _ ?_))) ?_
        intro b4 W4 H4
        refine so_all [3, 8] (by kernel_rfl) (x_one ?_ (x_one ?_ x_none))
        · refine th_append tabOk (by assumption) [7, 8, 11, 12, 13] (by kernel_rfl) rfl rfl rfl rfl rfl rfl rfl rfl rfl (fun _ _ => (by repeat (first | exact Upd.here | apply Upd.there))) (hs1 (by assumption)) (by omega) (fun _ _ => (by repeat (first | exact List.nil_sublist _ | refine List.Sublist.cons_cons _ ?_ | refine List.Sublist.cons _ ?_))) ?_
          intro ad3 cp3 W3 H3
          simp only [Nat.zero_add, List.nil_append] at H3 ⊢
          refine so_all [7, 8] (by kernel_rfl) (x_one ?_ (x_one ?_ x_none))
          · refine th_append tabOk (by assumption) [8, 11, 12, 13] (by kernel_rfl) rfl rfl rfl rfl rfl rfl rfl rfl rfl (fun _ _ => (by repeat (first | exact Upd.here | apply Upd.there))) (hs2 (by assumption)) (by omega) (fun _ _ => (by repeat (first | exact List.nil_sublist _ | refine List.Sublist.cons_cons _ ?_ | refine List.Sublist.cons _ ?_))) ?_
            intro ad7 cp7 W7 H7
            simp only [Nat.zero_add, List.nil_append] at H7 ⊢
            refine so_single (by kernel_rfl) (th_lit tabOk (by assumption) [11, 12, 13] (by kernel_rfl) rfl rfl rfl rfl rfl rfl rfl rfl rfl rfl rfl (fun _ => (by repeat (first | exact List.nil_sublist _ | refine List.Sublist.cons_cons _ ?_ | refine List.Sublist.cons _ ?_))) ?_)
            intro b8 W8 H8
            refine so_single (by kernel_rfl) (th_append tabOk (by assumption) [12, 13] (by kernel_rfl) rfl rfl rfl rfl rfl rfl rfl rfl rfl (fun _ _ => (by repeat (first | exact Upd.here | apply Upd.there))) (hs3 (by assumption)) (by omega) (fun _ _ => (by repeat (first | exact List.nil_sublist _ | refine List.Sublist.cons_cons _ ?_ | refine List.Sublist.cons _ ?_))) ?_)
            intro ad11 cp11 W11 H11
            simp only [Nat.zero_add, List.nil_append] at H11 ⊢
            repeat (first | refine so_pure tabOk lx rfl rfl rfl rfl (by kernel_rfl) ?_ | refine so_load' tabOk lx rfl rfl rfl rfl (by repeat (first | exact List.Mem.head _ | apply List.Mem.tail)) (by rfl) (by rfl) (by kernel_rfl) ?_ | refine so_loada' tabOk lx rfl rfl rfl rfl (by repeat (first | exact List.Mem.head _ | apply List.Mem.tail)) (by rfl) (by kernel_rfl) ?_ | refine so_len tabOk lx rfl rfl rfl rfl (by kernel_rfl) ?_ | refine so_build' tabOk lx rfl rfl rfl rfl rfl rfl (by kernel_rfl) ?_ | refine so_index1n tabOk lx rfl rfl rfl rfl (by omega) (by kernel_rfl) ?_ | refine so_indexn tabOk lx rfl rfl rfl rfl (by omega) (by kernel_rfl) ?_ | refine so_index1 tabOk lx rfl rfl rfl rfl (by omega) (by omega) (by kernel_rfl) ?_ | refine so_pass lx rfl rfl rfl (by kernel_rfl) ?_ | refine so_arith tabOk lx rfl rfl rfl rfl (by simp only [InR]; omega) (by kernel_rfl) ?_)
            refine so_single (by kernel_rfl) (th_store tabOk (by assumption) (by simp [cv, Cn.c1, cl]) [] (by kernel_rfl) rfl rfl rfl rfl rfl rfl (by repeat (first | exact Upd.here | apply Upd.there)) (by rfl) (by repeat (first | exact List.nil_sublist _ | refine List.Sublist.cons_cons _ ?_ | refine List.Sublist.cons _ ?_)) ?_)
            intro W13 H13
            refine so_done ?_
            exact mid_done (ad3, cp3, ad7, cp7, ad11, cp11) (by exact (by repeat (first | exact less_nil | refine less_cons rfl ?_))) (by dsimp only; exact Hp.picks (by assumption) (by repeat (first | exact Picks.nil | (apply Picks.cons; (repeat (first | exact Pick.here | apply Pick.there))))))
          · refine th_lit tabOk (by assumption) [7, 11, 12, 13] (by kernel_rfl) rfl rfl rfl rfl rfl rfl rfl rfl rfl rfl rfl (fun _ => (by repeat (first | exact List.nil_sublist _ | refine List.Sublist.cons_cons _ ?_ | refine List.Sublist.cons _ ?_))) ?_
            intro b8 W8 H8
            refine so_single (by kernel_rfl) (th_append tabOk (by assumption) [11, 12, 13] (by kernel_rfl) rfl rfl rfl rfl rfl rfl rfl rfl rfl (fun _ _ => (by repeat (first | exact Upd.here | apply Upd.there))) (hs2 (by assumption)) (by omega) (fun _ _ => (by repeat (first | exact List.nil_sublist _ | refine List.Sublist.cons_cons _ ?_ | refine List.Sublist.cons _ ?_))) ?_)
            intro ad7 cp7 W7 H7
            simp only [Nat.zero_add, List.nil_append] at H7 ⊢
            refine so_single (by kernel_rfl) (th_append tabOk (by assumption) [12, 13] (by kernel_rfl) rfl rfl rfl rfl rfl rfl rfl rfl rfl (fun _ _ => (by repeat (first | exact Upd.here | apply Upd.there))) (hs3 (by assumption)) (by omega) (fun _ _ => (by repeat (first | exact List.nil_sublist _ | refine List.Sublist.cons_cons _ ?_ | refine List.Sublist.cons _ ?_))) ?_)
            intro ad11 cp11 W11 H11
            simp only [Nat.zero_add, List.nil_append] at H11 ⊢
            repeat (first | refine so_pure tabOk lx rfl rfl rfl rfl (by kernel_rfl) ?_ | refine so_load' tabOk lx rfl rfl rfl rfl (by repeat (first | exact List.Mem.head _ | apply List.Mem.tail)) (by rfl) (by rfl) (by kernel_rfl) ?_ | refine so_loada' tabOk lx rfl rfl rfl rfl (by repeat (first | exact List.Mem.head _ | apply List.Mem.tail)) (by rfl) (by kernel_rfl) ?_ | refine so_len tabOk lx rfl rfl rfl rfl (by kernel_rfl) ?_ | refine so_build' tabOk lx rfl rfl rfl rfl rfl rfl (by kernel_rfl) ?_ | refine so_index1n tabOk lx rfl rfl rfl rfl (by omega) (by kernel_rfl) ?_ | refine so_indexn tabOk lx rfl rfl rfl rfl (by omega) (by kernel_rfl) ?_ | refine so_index1 tabOk lx rfl rfl rfl rfl (by omega) (by omega) (by kernel_rfl) ?_ | refine so_pass lx rfl rfl rfl (by kernel_rfl) ?_ | refine so_arith tabOk lx rfl rfl rfl rfl (by simp only [InR]; omega) (by kernel_rfl) ?_)
            refine so_single (by kernel_rfl) (th_store tabOk (by assumption) (by simp [cv, Cn.c1, cl]) [] (by kernel_rfl) rfl rfl rfl rfl rfl rfl (by repeat (first | exact Upd.here | apply Upd.there)) (by rfl) (by repeat (first | exact List.nil_sublist _ | refine List.Sublist.cons_cons _ ?_ | refine List.Sublist.cons _ ?_)) ?_)
            intro W13 H13
            refine so_done ?_
            exact mid_done (ad3, cp3, ad7, cp7, ad11, cp11) (by exact (by repeat (first | exact less_nil | refine less_cons rfl ?_))) (by dsimp only; exact Hp.picks (by assumption) (by repeat (first | exact Picks.nil | (apply Picks.cons; (repeat (first | exact Pick.here | apply Pick.there))))))
        · refine th_lit tabOk (by assumption) [3, 7, 11, 12, 13] (by kernel_rfl) rfl rfl rfl rfl rfl rfl rfl rfl rfl rfl rfl (fun _ => (by repeat (first | exact List.nil_sublist _ | refine List.Sublist.cons_cons _ ?_ | refine List.Sublist.cons _ ?_))) ?_
          intro b8 W8 H8
          refine so_single (by kernel_rfl) (th_append tabOk (by assumption) [7, 11, 12, 13] (by kernel_rfl) rfl rfl rfl rfl rfl rfl rfl rfl rfl (fun _ _ => (by repeat (first | exact Upd.here | apply Upd.there))) (hs1 (by assumption)) (by omega) (fun _ _ => (by repeat (first | exact List.nil_sublist _ | refine List.Sublist.cons_cons _ ?_ | refine List.Sublist.cons _ ?_))) ?_)
          intro ad3 cp3 W3 H3
          simp only [Nat.zero_add, List.nil_append] at H3 ⊢
          refine so_single (by kernel_rfl) (th_append tabOk (by assumption) [11, 12, 13] (by kernel_rfl) rfl rfl rfl rfl rfl rfl rfl rfl rfl (fun _ _ => (by repeat (first | exact Upd.here | apply Upd.there))) (hs2 (by assumption)) (by omega) (fun _ _ => (by repeat (first | exact List.nil_sublist _ | refine List.Sublist.cons_cons _ ?_ | refine List.Sublist.cons _ ?_))) ?_)
          intro ad7 cp7 W7 H7
          simp only [Nat.zero_add, List.nil_append] at H7 ⊢
          refine so_single (by kernel_rfl) (th_append tabOk (by assumption) [12, 13] (by kernel_rfl) rfl rfl rfl rfl rfl rfl rfl rfl rfl (fun _ _ => (by repeat (first | exact Upd.here | apply Upd.there))) (hs3 (by assumption)) (by omega) (fun _ _ => (by repeat (first | exact List.nil_sublist _ | refine List.Sublist.cons_cons _ ?_ | refine List.Sublist.cons _ ?_))) ?_)
          intro ad11 cp11 W11 H11
          simp only [Nat.zero_add, List.nil_append] at H11 ⊢
          repeat (first | refine so_pure tabOk lx rfl rfl rfl rfl (by kernel_rfl) ?_ | refine so_load' tabOk lx rfl rfl rfl rfl (by repeat (first | exact List.Mem.head _ | apply List.Mem.tail)) (by rfl) (by rfl) (by kernel_rfl) ?_ | refine so_loada' tabOk lx rfl rfl rfl rfl (by repeat (first | exact List.Mem.head _ | apply List.Mem.tail)) (by rfl) (by kernel_rfl) ?_ | refine so_len tabOk lx rfl rfl rfl rfl (by kernel_rfl) ?_ | refine so_build' tabOk lx rfl rfl rfl rfl rfl rfl (by kernel_rfl) ?_ | refine so_index1n tabOk lx rfl rfl rfl rfl (by omega) (by kernel_rfl) ?_ | refine so_indexn tabOk lx rfl rfl rfl rfl (by omega) (by kernel_rfl) ?_ | refine so_index1 tabOk lx rfl rfl rfl rfl (by omega) (by omega) (by kernel_rfl) ?_ | refine so_pass lx rfl rfl rfl (by kernel_rfl) ?_ | refine so_arith tabOk lx rfl rfl rfl rfl (by simp only [InR]; omega) (by kernel_rfl) ?_)
          refine so_single (by kernel_rfl) (th_store tabOk (by assumption) (by simp [cv, Cn.c1, cl]) [] (by kernel_rfl) rfl rfl rfl rfl rfl rfl (by repeat (first | exact Upd.here | apply Upd.there)) (by rfl) (by repeat (first | exact List.nil_sublist _ | refine List.Sublist.cons_cons _ ?_ | refine List.Sublist.cons _ ?_)) ?_)
          intro W13 H13
          refine so_done ?_
          exact mid_done (ad3, cp3, ad7, cp7, ad11, cp11) (by exact (by repeat (first | exact less_nil | refine less_cons rfl ?_))) (by dsimp only; exact Hp.picks (by assumption) (by repeat (first | exact Picks.nil | (apply Picks.cons; (repeat (first | exact Pick.here | apply Pick.there))))))
      · refine th_lit tabOk (by assumption) [3, 4, 7, 11, 12, 13] (by kernel_rfl) rfl rfl rfl rfl rfl rfl rfl rfl rfl rfl rfl (fun _ => (by repeat (first | exact List.nil_sublist _ | refine List.Sublist.cons_cons _ ?_ | refine List.Sublist.cons _ ?_))) ?_
        intro b8 W8 H8
        refine so_all [3, 4] (by kernel_rfl) (x_one ?_ (x_one ?_ x_none))
        · refine th_append tabOk (by assumption) [4, 7, 11, 12, 13] (by kernel_rfl) rfl rfl rfl rfl rfl rfl rfl rfl rfl (fun _ _ => (by repeat (first | exact Upd.here | apply Upd.there))) (hs1 (by assumption)) (by omega) (fun _ _ => (by repeat (first | exact List.nil_sublist _ | refine List.Sublist.cons_cons _ ?_ | refine List.Sublist.cons _ ?_))) ?_
          intro ad3 cp3 W3 H3
          simp only [Nat.zero_add, List.nil_append] at H3 ⊢
          refine so_single (by kernel_rfl) (th_lit tabOk (by assumption) [7, 11, 12, 13] (by kernel_rfl) rfl rfl rfl rfl rfl rfl rfl rfl rfl rfl rfl (fun _ => (by repeat (first | exact List.nil_sublist _ | refine List.Sublist.cons_cons _ ?_ | refine List.Sublist.cons _ ?_))) ?_)
          intro b4 W4 H4
          refine so_single (by kernel_rfl) (th_append tabOk (by assumption) [11, 12, 13] (by kernel_rfl) rfl rfl rfl rfl rfl rfl rfl rfl rfl (fun _ _ => (by repeat (first | exact Upd.here | apply Upd.there))) (hs2 (by assumption)) (by omega) (fun _ _ => (by repeat (first | exact List.nil_sublist _ | refine List.Sublist.cons_cons _ ?_ | refine List.Sublist.cons _ ?_))) ?_)
          intro ad7 cp7 W7 H7
          simp only [Nat.zero_add, List.nil_append] at H7 ⊢
          refine so_single (by kernel_rfl) (th_append tabOk (by assumption) [12, 13] (by kernel_rfl) rfl rfl rfl rfl rfl rfl rfl rfl rfl (fun _ _ => (by repeat (first | exact Upd.here | apply Upd.there))) (hs3 (by assumption)) (by omega) (fun _ _ => (by repeat (first | exact List.nil_sublist _ | refine List.Sublist.cons_cons _ ?_ | refine List.Sublist.cons _ ?_))) ?_)
          intro ad11 cp11 W11 H11
          simp only [Nat.zero_add, List.nil_append] at H11 ⊢
          repeat (first | refine so_pure tabOk lx rfl rfl rfl rfl (by kernel_rfl) ?_ | refine so_load' tabOk lx rfl rfl rfl rfl (by repeat (first | exact List.Mem.head _ | apply List.Mem.tail)) (by rfl) (by rfl) (by kernel_rfl) ?_ | refine so_loada' tabOk lx rfl rfl rfl rfl (by repeat (first | exact List.Mem.head _ | apply List.Mem.tail)) (by rfl) (by kernel_rfl) ?_ | refine so_len tabOk lx rfl rfl rfl rfl (by kernel_rfl) ?_ | refine so_build' tabOk lx rfl rfl rfl rfl rfl rfl (by kernel_rfl) ?_ | refine so_index1n tabOk lx rfl rfl rfl rfl (by omega) (by kernel_rfl) ?_ | refine so_indexn tabOk lx rfl rfl rfl rfl (by omega) (by kernel_rfl) ?_ | refine so_index1 tabOk lx rfl rfl rfl rfl (by omega) (by omega) (by kernel_rfl) ?_ | refine so_pass lx rfl rfl rfl (by kernel_rfl) ?_ | refine so_arith tabOk lx rfl rfl rfl rfl (by simp only [InR]; omega) (by kernel_rfl) ?_)
          refine so_single (by kernel_rfl) (th_store tabOk (by assumption) (by simp [cv, Cn.c1, cl]) [] (by kernel_rfl) rfl rfl rfl rfl rfl rfl (by repeat (first | exact Upd.here | apply Upd.there)) (by rfl) (by repeat (first | exact List.nil_sublist _ | refine List.Sublist.cons_cons _ ?_ | refine List.Sublist.cons _ ?_)) ?_)
          intro W13 H13
          refine so_done ?_
          exact mid_done (ad3, cp3, ad7, cp7, ad11, cp11) (by exact (by repeat (first | exact less_nil | refine less_cons rfl ?_))) (by dsimp only; exact Hp.picks (by assumption) (by repeat (first | exact Picks.nil | (apply Picks.cons; (repeat (first | exact Pick.here | apply Pick.there))))))
        · refine th_lit tabOk (by assumption) [3, 7, 11, 12, 13] (by kernel_rfl) rfl rfl rfl rfl rfl rfl rfl rfl rfl rfl rfl (fun _ => (by repeat (first | exact List.nil_sublist _ | refine List.Sublist.cons_cons _ ?_ | refine List.Sublist.cons _ ?_))) ?_
          intro b4 W4 H4
          refine so_single (by kernel_rfl) (th_append tabOk (by assumption) [7, 11, 12, 13] (by kernel_rfl) rfl rfl rfl rfl rfl rfl rfl rfl rfl (fun _ _ => (by repeat (first | exact Upd.here | apply Upd.there))) (hs1 (by assumption)) (by omega) (fun _ _ => (by repeat (first | exact List.nil_sublist _ | refine List.Sublist.cons_cons _ ?_ | refine List.Sublist.cons _ ?_))) ?_)
          intro ad3 cp3 W3 H3
          simp only [Nat.zero_add, List.nil_append] at H3 ⊢
          refine so_single (by kernel_rfl) (th_append tabOk (by assumption) [11, 12, 13] (by kernel_rfl) rfl rfl rfl rfl rfl rfl rfl rfl rfl (fun _ _ => (by repeat (first | exact Upd.here | apply Upd.there))) (hs2 (by assumption)) (by omega) (fun _ _ => (by repeat (first | exact List.nil_sublist _ | refine List.Sublist.cons_cons _ ?_ | refine List.Sublist.cons _ ?_))) ?_)
          intro ad7 cp7 W7 H7
          simp only [Nat.zero_add, List.nil_append] at H7 ⊢
          refine so_single (by kernel_rfl) (th_append tabOk (by assumption) [12, 13] (by kernel_rfl) rfl rfl rfl rfl rfl rfl rfl rfl rfl (fun _ _ => (by repeat (first | exact Upd.here | apply Upd.there))) (hs3 (by assumption)) (by omega) (fun _ _ => (by repeat (first | exact List.nil_sublist _ | refine List.Sublist.cons_cons _ ?_ | refine List.Sublist.cons _ ?_))) ?_)
          intro ad11 cp11 W11 H11
          simp only [Nat.zero_add, List.nil_append] at H11 ⊢
          repeat (first | refine so_pure tabOk lx rfl rfl rfl rfl (by kernel_rfl) ?_ | refine so_load' tabOk lx rfl rfl rfl rfl (by repeat (first | exact List.Mem.head _ | apply List.Mem.tail)) (by rfl) (by rfl) (by kernel_rfl) ?_ | refine so_loada' tabOk lx rfl rfl rfl rfl (by repeat (first | exact List.Mem.head _ | apply List.Mem.tail)) (by rfl) (by kernel_rfl) ?_ | refine so_len tabOk lx rfl rfl rfl rfl (by kernel_rfl) ?_ | refine so_build' tabOk lx rfl rfl rfl rfl rfl rfl (by kernel_rfl) ?_ | refine so_index1n tabOk lx rfl rfl rfl rfl (by omega) (by kernel_rfl) ?_ | refine so_indexn tabOk lx rfl rfl rfl rfl (by omega) (by kernel_rfl) ?_ | refine so_index1 tabOk lx rfl rfl rfl rfl (by omega) (by omega) (by kernel_rfl) ?_ | refine so_pass lx rfl rfl rfl (by kernel_rfl) ?_ | refine so_arith tabOk lx rfl rfl rfl rfl (by simp only [InR]; omega) (by kernel_rfl) ?_)
          refine so_single (by kernel_rfl) (th_store tabOk (by assumption) (by simp [cv, Cn.c1, cl]) [] (by kernel_rfl) rfl rfl rfl rfl rfl rfl (by repeat (first | exact Upd.here | apply Upd.there)) (by rfl) (by repeat (first | exact List.nil_sublist _ | refine List.Sublist.cons_cons _ ?_ | refine List.Sublist.cons _ ?_)) ?_)
          intro W13 H13
          refine so_done ?_
          exact mid_done (ad3, cp3, ad7, cp7, ad11, cp11) (by exact (by repeat (first | exact less_nil | refine less_cons rfl ?_))) (by dsimp only; exact Hp.picks (by assumption) (by repeat (first | exact Picks.nil | (apply Picks.cons; (repeat (first | exact Pick.here | apply Pick.there))))))
    · refine th_lit tabOk (by assumption) [0, 8, 3, 7, 11, 12, 13] (by kernel_rfl) rfl rfl rfl rfl rfl rfl rfl rfl rfl rfl rfl (fun _ => (by repeat (first | exact List.nil_sublist _ | refine List.Sublist.cons_cons _ ?_ | refine List.Sublist.cons _ ?_))) ?_
      intro b4 W4 H4
      refine so_all [0, 8] (by kernel_rfl) (x_one ?_ (x_one ?_ x_none))
      · refine th_lit tabOk (by assumption) [3, 8, 7, 11, 12, 13] (by kernel_rfl) rfl rfl rfl rfl rfl rfl rfl rfl rfl rfl rfl (fun _ => (by repeat (first | exact List.nil_sublist _ | refine List.Sublist.cons_cons _ ?_ | refine List.Sublist.cons _ ?_))) ?_
        intro b0 W0 H0
        refine so_all [3, 8] (by kernel_rfl) (x_one ?_ (x_one ?_ x_none))
        · refine th_append tabOk (by assumption) [7, 8, 11, 12, 13] (by kernel_rfl) rfl rfl rfl rfl rfl rfl rfl rfl rfl (fun _ _ => (by repeat (first | exact Upd.here | apply Upd.there))) (hs1 (by assumption)) (by omega) (fun _ _ => (by repeat (first | exact List.nil_sublist _ | refine List.Sublist.cons_cons _ ?_ | refine List.Sublist.cons _ ?_))) ?_
          intro ad3 cp3 W3 H3
          simp only [Nat.zero_add, List.nil_append] at H3 ⊢
          refine so_all [7, 8] (by kernel_rfl) (x_one ?_ (x_one ?_ x_none))
          · refine th_append tabOk (by assumption) [8, 11, 12, 13] (by kernel_rfl) rfl rfl rfl rfl rfl rfl rfl rfl rfl (fun _ _ => (by repeat (first | exact Upd.here | apply Upd.there))) (hs2 (by assumption)) (by omega) (fun _ _ => (by repeat (first | exact List.nil_sublist _ | refine List.Sublist.cons_cons _ ?_ | refine List.Sublist.cons _ ?_))) ?_
            intro ad7 cp7 W7 H7
            simp only [Nat.zero_add, List.nil_append] at H7 ⊢
            refine so_single (by kernel_rfl) (th_lit tabOk (by assumption) [11, 12, 13] (by kernel_rfl) rfl rfl rfl rfl rfl rfl rfl rfl rfl rfl rfl (fun _ => (by repeat (first | exact List.nil_sublist _ | refine List.Sublist.cons_cons _ ?_ | refine List.Sublist.cons _ ?_))) ?_)
            intro b8 W8 H8
            refine so_single (by kernel_rfl) (th_append tabOk (by assumption) [12, 13] (by kernel_rfl) rfl rfl rfl rfl rfl rfl rfl rfl rfl (fun _ _ => (by repeat (first | exact Upd.here | apply Upd.there))) (hs3 (by assumption)) (by omega) (fun _ _ => (by repeat (first | exact List.nil_sublist _ | refine List.Sublist.cons_cons _ ?_ | refine List.Sublist.cons _ ?_))) ?_)
            intro ad11 cp11 W11 H11
            simp only [Nat.zero_add, List.nil_append] at H11 ⊢
            repeat (first | refine so_pure tabOk lx rfl rfl rfl rfl (by kernel_rfl) ?_ | refine so_load' tabOk lx rfl rfl rfl rfl (by repeat (first | exact List.Mem.head _ | apply List.Mem.tail)) (by rfl) (by rfl) (by kernel_rfl) ?_ | refine so_loada' tabOk lx rfl rfl rfl rfl (by repeat (first | exact List.Mem.head _ | apply List.Mem.tail)) (by rfl) (by kernel_rfl) ?_ | refine so_len tabOk lx rfl rfl rfl rfl (by kernel_rfl) ?_ | refine so_build' tabOk lx rfl rfl rfl rfl rfl rfl (by kernel_rfl) ?_ | refine so_index1n tabOk lx rfl rfl rfl rfl (by omega) (by kernel_rfl) ?_ | refine so_indexn tabOk lx rfl rfl rfl rfl (by omega) (by kernel_rfl) ?_ | refine so_index1 tabOk lx rfl rfl rfl rfl (by omega) (by omega) (by kernel_rfl) ?_ | refine so_pass lx rfl rfl rfl (by kernel_rfl) ?_ | refine so_arith tabOk lx rfl rfl rfl rfl (by simp only [InR]; omega) (by kernel_rfl) ?_)
            refine so_single (by kernel_rfl) (th_store tabOk (by assumption) (by simp [cv, Cn.c1, cl]) [] (by kernel_rfl) rfl rfl rfl rfl rfl rfl (by repeat (first | exact Upd.here | apply Upd.there)) (by rfl) (by repeat (first | exact List.nil_sublist _ | refine List.Sublist.cons_cons _ ?_ | refine List.Sublist.cons _ ?_)) ?_)
            intro W13 H13
            refine so_done ?_
            exact mid_done (ad3, cp3, ad7, cp7, ad11, cp11) (by exact (by repeat (first | exact less_nil | refine less_cons rfl ?_))) (by dsimp only; exact Hp.picks (by assumption) (by repeat (first | exact Picks.nil | (apply Picks.cons; (repeat (first | exact Pick.here | apply Pick.there))))))
          · refine th_lit tabOk (by assumption) [7, 11, 12, 13] (by kernel_rfl) rfl rfl rfl rfl rfl rfl rfl rfl rfl rfl rfl (fun _ => (by repeat (first | exact List.nil_sublist _ | refine List.Sublist.cons_cons _ ?_ | refine List.Sublist.cons _ ?_))) ?_
            intro b8 W8 H8
            refine so_single (by kernel_rfl) (th_append tabOk (by assumption) [11, 12, 13] (by kernel_rfl) rfl rfl rfl rfl rfl rfl rfl rfl rfl (fun _ _ => (by repeat (first | exact Upd.here | apply Upd.there))) (hs2 (by assumption)) (by omega) (fun _ _ => (by repeat (first | exact List.nil_sublist _ | refine List.Sublist.cons_cons _ ?_ | refine List.Sublist.cons _ ?_))) ?_)
            intro ad7 cp7 W7 H7
            simp only [Nat.zero_add, List.nil_append] at H7 ⊢
            refine so_single (by kernel_rfl) (th_append tabOk (by assumption) [12, 13] (by kernel_rfl) rfl rfl rfl rfl rfl rfl rfl rfl rfl (fun _ _ => (by repeat (first | exact Upd.here | apply Upd.there))) (hs3 (by assumption)) (by omega) (fun _ _ => (by repeat (first | exact List.nil_sublist _ | refine List.Sublist.cons_cons _ ?_ | refine List.Sublist.cons _ ?_))) ?_)
            intro ad11 cp11 W11 H11
            simp only [Nat.zero_add, List.nil_append] at H11 ⊢
            repeat (first | refine so_pure tabOk lx rfl rfl rfl rfl (by kernel_rfl) ?_ | refine so_load' tabOk lx rfl rfl rfl rfl (by repeat (first | exact List.Mem.head _ | apply List.Mem.tail)) (by rfl) (by rfl) (by kernel_rfl) ?_ | refine so_loada' tabOk lx rfl rfl rfl rfl (by repeat (first | exact List.Mem.head _ | apply List.Mem.tail)) (by rfl) (by kernel_rfl) ?_ | refine so_len tabOk lx rfl rfl rfl rfl (by kernel_rfl) ?_ | refine so_build' tabOk lx rfl rfl rfl rfl rfl rfl (by kernel_rfl) ?_ | refine so_index1n tabOk lx rfl rfl rfl rfl (by omega) (by kernel_rfl) ?_ | refine so_indexn tabOk lx rfl rfl rfl rfl (by omega) (by kernel_rfl) ?_ | refine so_index1 tabOk lx rfl rfl rfl rfl (by omega) (by omega) (by kernel_rfl) ?_ | refine so_pass lx rfl rfl rfl (by kernel_rfl) ?_ | refine so_arith tabOk lx rfl rfl rfl rfl (by simp only [InR]; omega) (by kernel_rfl) ?_)
            refine so_single (by kernel_rfl) (th_store tabOk (by assumption) (by simp [cv, Cn.c1, cl]) [] (by kernel_rfl) rfl rfl rfl rfl rfl rfl (by repeat (first | exact Upd.here | apply Upd.there)) (by rfl) (by repeat (first | exact List.nil_sublist _ | refine List.Sublist.cons_cons _ ?_ | refine List.Sublist.cons _ ?_)) ?_)
            intro W13 H13
            refine so_done ?_
            exact mid_done (ad3, cp3, ad7, cp7, ad11, cp11) (by exact (by repeat (first | exact less_nil | refine less_cons rfl ?_))) (by dsimp only; exact Hp.picks (by assumption) (by repeat (first | exact Picks.nil | (apply Picks.cons; (repeat (first | exact Pick.here | apply Pick.there))))))
        · refine th_lit tabOk (by assumption) [3, 7, 11, 12, 13] (by kernel_rfl) rfl rfl rfl rfl rfl rfl rfl rfl rfl rfl rfl (fun _ => (by repeat (first | exact List.nil_sublist _ | refine List.Sublist.cons_cons _ ?_ | refine List.Sublist.cons _ ?_))) ?_
          intro b8 W8 H8
          refine so_single (by kernel_rfl) (th_append tabOk (by assumption) [7, 11, 12, 13] (by kernel_rfl) rfl rfl rfl rfl rfl rfl rfl rfl rfl (fun _ _ => (by repeat (first | exact Upd.here | apply Upd.there))) (hs1 (by assumption)) (by omega) (fun _ _ => (by repeat (first | exact List.nil_sublist _ | refine List.Sublist.cons_cons _ ?_ | refine List.Sublist.cons _ ?_))) ?_)
          intro ad3 cp3 W3 H3
          simp only [Nat.zero_add, List.nil_append] at H3 ⊢
          refine so_single (by kernel_rfl) (th_append tabOk (by assumption) [11, 12, 13] (by kernel_rfl) rfl rfl rfl rfl rfl rfl rfl rfl rfl (fun _ _ => (by repeat (first | exact Upd.here | apply Upd.there))) (hs2 (by assumption)) (by omega) (fun _ _ => (by repeat (first | exact List.nil_sublist _ | refine List.Sublist.cons_cons _ ?_ | refine List.Sublist.cons _ ?_))) ?_)
          intro ad7 cp7 W7 H7
          simp only [Nat.zero_add, List.nil_append] at H7 ⊢
          refine so_single (by kernel_rfl) (th_append tabOk (by assumption) [12, 13] (by kernel_rfl) rfl rfl rfl rfl rfl rfl rfl rfl rfl (fun _ _ => (by repeat (first | exact Upd.here | apply Upd.there))) (hs3 (by assumption)) (by omega) (fun _ _ => (by repeat (first | exact List.nil_sublist _ | refine List.Sublist.cons_cons _ ?_ | refine List.Sublist.cons _ ?_))) ?_)
          intro ad11 cp11 W11 H11
          simp only [Nat.zero_add, List.nil_append] at H11 ⊢
          repeat (first | refine so_pure tabOk lx rfl rfl rfl rfl (by kernel_rfl) ?_ | refine so_load' tabOk lx rfl rfl rfl rfl (by repeat (first | exact List.Mem.head _ | apply List.Mem.tail)) (by rfl) (by rfl) (by kernel_rfl) ?_ | refine so_loada' tabOk lx rfl rfl rfl rfl (by repeat (first | exact List.Mem.head _ | apply List.Mem.tail)) (by rfl) (by kernel_rfl) ?_ | refine so_len tabOk lx rfl rfl rfl rfl (by kernel_rfl) ?_ | refine so_build' tabOk lx rfl rfl rfl rfl rfl rfl (by kernel_rfl) ?_ | refine so_index1n tabOk lx rfl rfl rfl rfl (by omega) (by kernel_rfl) ?_ | refine so_indexn tabOk lx rfl rfl rfl rfl (by omega) (by kernel_rfl) ?_ | refine so_index1 tabOk lx rfl rfl rfl rfl (by omega) (by omega) (by kernel_rfl) ?_ | refine so_pass lx rfl rfl rfl (by kernel_rfl) ?_ | refine so_arith tabOk lx rfl rfl rfl rfl (by simp only [InR]; omega) (by kernel_rfl) ?_)
          refine so_single (by kernel_rfl) (th_store tabOk (by assumption) (by simp [cv, Cn.c1, cl]) [] (by kernel_rfl) rfl rfl rfl rfl rfl rfl (by repeat (first | exact Upd.here | apply Upd.there)) (by rfl) (by repeat (first | exact List.nil_sublist _ | refine List.Sublist.cons_cons _ ?_ | refine List.Sublist.cons _ ?_)) ?_)
          intro W13 H13
          refine so_done ?_
          exact mid_done (ad3, cp3, ad7, cp7, ad11, cp11) (by exact (by repeat (first | exact less_nil | refine less_cons rfl ?_))) (by dsimp only; exact Hp.picks (by assumption) (by repeat (first | exact Picks.nil | (apply Picks.cons; (repeat (first | exact Pick.here | apply Pick.there))))))
      · refine th_lit tabOk (by assumption) [0, 3, 7, 11, 12, 13] (by kernel_rfl) rfl rfl rfl rfl rfl rfl rfl rfl rfl rfl rfl (fun _ => (by repeat (first | exact List.nil_sublist _ | refine List.Sublist.cons_cons _ ?_ | refine List.Sublist.cons _ ?_))) ?_
        intro b8 W8 H8
        refine so_single (by kernel_rfl) (th_lit tabOk (by assumption) [3, 7, 11, 12, 13] (by kernel_rfl) rfl rfl rfl rfl rfl rfl rfl rfl rfl rfl rfl (fun _ => (by repeat (first | exact List.nil_sublist _ | refine List.Sublist.cons_cons _ ?_ | refine List.Sublist.cons _ ?_))) ?_)
        intro b0 W0 H0
        refine so_single (by kernel_rfl) (th_append tabOk (by assumption) [7, 11, 12, 13] (by kernel_rfl) rfl rfl rfl rfl rfl rfl rfl rfl rfl (fun _ _ => (by repeat (first | exact Upd.here | apply Upd.there))) (hs1 (by assumption)) (by omega) (fun _ _ => (by repeat (first | exact List.nil_sublist _ | refine List.Sublist.cons_cons _ ?_ | refine List.Sublist.cons _ ?_))) ?_)
        intro ad3 cp3 W3 H3
        simp only [Nat.zero_add, List.nil_append] at H3 ⊢
        refine so_single (by kernel_rfl) (th_append tabOk (by assumption) [11, 12, 13] (by kernel_rfl) rfl rfl rfl rfl rfl rfl rfl rfl rfl (fun _ _ => (by repeat (first | exact Upd.here | apply Upd.there))) (hs2 (by assumption)) (by omega) (fun _ _ => (by repeat (first | exact List.nil_sublist _ | refine List.Sublist.cons_cons _ ?_ | refine List.Sublist.cons _ ?_))) ?_)
        intro ad7 cp7 W7 H7
        simp only [Nat.zero_add, List.nil_append] at H7 ⊢
        refine so_single (by kernel_rfl) (th_append tabOk (by assumption) [12, 13] (by kernel_rfl) rfl rfl rfl rfl rfl rfl rfl rfl rfl (fun _ _ => (by repeat (first | exact Upd.here | apply Upd.there))) (hs3 (by assumption)) (by omega) (fun _ _ => (by repeat (first | exact List.nil_sublist _ | refine List.Sublist.cons_cons _ ?_ | refine List.Sublist.cons _ ?_))) ?_)
        intro ad11 cp11 W11 H11
        simp only [Nat.zero_add, List.nil_append] at H11 ⊢
        repeat (first | refine so_pure tabOk lx rfl rfl rfl rfl (by kernel_rfl) ?_ | refine so_load' tabOk lx rfl rfl rfl rfl (by repeat (first | exact List.Mem.head _ | apply List.Mem.tail)) (by rfl) (by rfl) (by kernel_rfl) ?_ | refine so_loada' tabOk lx rfl rfl rfl rfl (by repeat (first | exact List.Mem.head _ | apply List.Mem.tail)) (by rfl) (by kernel_rfl) ?_ | refine so_len tabOk lx rfl rfl rfl rfl (by kernel_rfl) ?_ | refine so_build' tabOk lx rfl rfl rfl rfl rfl rfl (by kernel_rfl) ?_ | refine so_index1n tabOk lx rfl rfl rfl rfl (by omega) (by kernel_rfl) ?_ | refine so_indexn tabOk lx rfl rfl rfl rfl (by omega) (by kernel_rfl) ?_ | refine so_index1 tabOk lx rfl rfl rfl rfl (by omega) (by omega) (by kernel_rfl) ?_ | refine so_pass lx rfl rfl rfl (by kernel_rfl) ?_ | refine so_arith tabOk lx rfl rfl rfl rfl (by simp only [InR]; omega) (by kernel_rfl) ?_)
        refine so_single (by kernel_rfl) (th_store tabOk (by assumption) (by simp [cv, Cn.c1, cl]) [] (by kernel_rfl) rfl rfl rfl rfl rfl rfl (by repeat (first | exact Upd.here | apply Upd.there)) (by rfl) (by repeat (first | exact List.nil_sublist _ | refine List.Sublist.cons_cons _ ?_ | refine List.Sublist.cons _ ?_)) ?_)
        intro W13 H13
        refine so_done ?_
        exact mid_done (ad3, cp3, ad7, cp7, ad11, cp11) (by exact (by repeat (first | exact less_nil | refine less_cons rfl ?_))) (by dsimp only; exact Hp.picks (by assumption) (by repeat (first | exact Picks.nil | (apply Picks.cons; (repeat (first | exact Pick.here | apply Pick.there))))))
    · refine th_lit tabOk (by assumption) [0, 4, 3, 7, 11, 12, 13] (by kernel_rfl) rfl rfl rfl rfl rfl rfl rfl rfl rfl rfl rfl (fun _ => (by repeat (first | exact List.nil_sublist _ | refine List.Sublist.cons_cons _ ?_ | refine List.Sublist.cons _ ?_))) ?_
      intro b8 W8 H8
      refine so_all [0, 4] (by kernel_rfl) (x_one ?_ (x_one ?_ x_none))
      · refine th_lit tabOk (by assumption) [3, 4, 7, 11, 12, 13] (by kernel_rfl) rfl rfl rfl rfl rfl rfl rfl rfl rfl rfl rfl (fun _ => (by repeat (first | exact List.nil_sublist _ | refine List.Sublist.cons_cons _ ?_ | refine List.Sublist.cons _ ?_))) ?_
        intro b0 W0 H0
        refine so_all [3, 4] (by kernel_rfl) (x_one ?_ (x_one ?_ x_none))
        · refine th_append tabOk (by assumption) [4, 7, 11, 12, 13] (by kernel_rfl) rfl rfl rfl rfl rfl rfl rfl rfl rfl (fun _ _ => (by repeat (first | exact Upd.here | apply Upd.there))) (hs1 (by assumption)) (by omega) (fun _ _ => (by repeat (first | exact List.nil_sublist _ | refine List.Sublist.cons_cons _ ?_ | refine List.Sublist.cons _ ?_))) ?_
          intro ad3 cp3 W3 H3
          simp only [Nat.zero_add, List.nil_append] at H3 ⊢
          refine so_single (by kernel_rfl) (th_lit tabOk (by assumption) [7, 11, 12, 13] (by kernel_rfl) rfl rfl rfl rfl rfl rfl rfl rfl rfl rfl rfl (fun _ => (by repeat (first | exact List.nil_sublist _ | refine List.Sublist.cons_cons _ ?_ | refine List.Sublist.cons _ ?_))) ?_)
          intro b4 W4 H4
          refine so_single (by kernel_rfl) (th_append tabOk (by assumption) [11, 12, 13] (by kernel_rfl) rfl rfl rfl rfl rfl rfl rfl rfl rfl (fun _ _ => (by repeat (first | exact Upd.here | apply Upd.there))) (hs2 (by assumption)) (by omega) (fun _ _ => (by repeat (first | exact List.nil_sublist _ | refine List.Sublist.cons_cons _ ?_ | refine List.Sublist.cons _ ?_))) ?_)
          intro ad7 cp7 W7 H7
          simp only [Nat.zero_add, List.nil_append] at H7 ⊢
          refine so_single (by kernel_rfl) (th_append tabOk (by assumption) [12, 13] (by kernel_rfl) rfl rfl rfl rfl rfl rfl rfl rfl rfl (fun _ _ => (by repeat (first | exact Upd.here | apply Upd.there))) (hs3 (by assumption)) (by omega) (fun _ _ => (by repeat (first | exact List.nil_sublist _ | refine List.Sublist.cons_cons _ ?_ | refine List.Sublist.cons _ ?_))) ?_)
          intro ad11 cp11 W11 H11
          simp only [Nat.zero_add, List.nil_append] at H11 ⊢
          repeat (first | refine so_pure tabOk lx rfl rfl rfl rfl (by kernel_rfl) ?_ | refine so_load' tabOk lx rfl rfl rfl rfl (by repeat (first | exact List.Mem.head _ | apply List.Mem.tail)) (by rfl) (by rfl) (by kernel_rfl) ?_ | refine so_loada' tabOk lx rfl rfl rfl rfl (by repeat (first | exact List.Mem.head _ | apply List.Mem.tail)) (by rfl) (by kernel_rfl) ?_ | refine so_len tabOk lx rfl rfl rfl rfl (by kernel_rfl) ?_ | refine so_build' tabOk lx rfl rfl rfl rfl rfl rfl (by kernel_rfl) ?_ | refine so_index1n tabOk lx rfl rfl rfl rfl (by omega) (by kernel_rfl) ?_ | refine so_indexn tabOk lx rfl rfl rfl rfl (by omega) (by kernel_rfl) ?_ | refine so_index1 tabOk lx rfl rfl rfl rfl (by omega) (by omega) (by kernel_rfl) ?_ | refine so_pass lx rfl rfl rfl (by kernel_rfl) ?_ | refine so_arith tabOk lx rfl rfl rfl rfl (by simp only [InR]; omega) (by kernel_rfl) ?_)
          refine so_single (by kernel_rfl) (th_store tabOk (by assumption) (by simp [cv, Cn.c1, cl]) [] (by kernel_rfl) rfl rfl rfl rfl rfl rfl (by repeat (first | exact Upd.here | apply Upd.there)) (by rfl) (by repeat (first | exact List.nil_sublist _ | refine List.Sublist.cons_cons _ ?_ | refine List.Sublist.cons _ ?_)) ?_)
          intro W13 H13
          refine so_done ?_
          exact mid_done (ad3, cp3, ad7, cp7, ad11, cp11) (by exact (by repeat (first | exact less_nil | refine less_cons rfl ?_))) (by dsimp only; exact Hp.picks (by assumption) (by repeat (first | exact Picks.nil | (apply Picks.cons; (repeat (first | exact Pick.here | apply Pick.there))))))
        · refine th_lit tabOk (by assumption) [3, 7, 11, 12, 13] (by kernel_rfl) rfl rfl rfl rfl rfl rfl rfl rfl rfl rfl rfl (fun _ => (by repeat (first | exact List.nil_sublist _ | refine List.Sublist.cons_cons _ ?_ | refine List.Sublist.cons _ ?_))) ?_
          intro b4 W4 H4
          refine so_single (by kernel_rfl) (th_append tabOk (by assumption) [7, 11, 12, 13] (by kernel_rfl) rfl rfl rfl rfl rfl rfl rfl rfl rfl (fun _ _ => (by repeat (first | exact Upd.here | apply Upd.there))) (hs1 (by assumption)) (by omega) (fun _ _ => (by repeat (first | exact List.nil_sublist _ | refine List.Sublist.cons_cons _ ?_ | refine List.Sublist.cons _ ?_))) ?_)
          intro ad3 cp3 W3 H3
          simp only [Nat.zero_add, List.nil_append] at H3 ⊢
          refine so_single (by kernel_rfl) (th_append tabOk (by assumption) [11, 12, 13] (by kernel_rfl) rfl rfl rfl rfl rfl rfl rfl rfl rfl (fun _ _ => (by repeat (first | exact Upd.here | apply Upd.there))) (hs2 (by assumption)) (by omega) (fun _ _ => (by repeat (first | exact List.nil_sublist _ | refine List.Sublist.cons_cons _ ?_ | refine List.Sublist.cons _ ?_))) ?_)
          intro ad7 cp7 W7 H7
          simp only [Nat.zero_add, List.nil_append] at H7 ⊢
          refine so_single (by kernel_rfl) (th_append tabOk (by assumption) [12, 13] (by kernel_rfl) rfl rfl rfl rfl rfl rfl rfl rfl rfl (fun _ _ => (by repeat (first | exact Upd.here | apply Upd.there))) (hs3 (by assumption)) (by omega) (fun _ _ => (by repeat (first | exact List.nil_sublist _ | refine List.Sublist.cons_cons _ ?_ | refine List.Sublist.cons _ ?_))) ?_)
          intro ad11 cp11 W11 H11
          simp only [Nat.zero_add, List.nil_append] at H11 ⊢
          repeat (first | refine so_pure tabOk lx rfl rfl rfl rfl (by kernel_rfl) ?_ | refine so_load' tabOk lx rfl rfl rfl rfl (by repeat (first | exact List.Mem.head _ | apply List.Mem.tail)) (by rfl) (by rfl) (by kernel_rfl) ?_ | refine so_loada' tabOk lx rfl rfl rfl rfl (by repeat (first | exact List.Mem.head _ | apply List.Mem.tail)) (by rfl) (by kernel_rfl) ?_ | refine so_len tabOk lx rfl rfl rfl rfl (by kernel_rfl) ?_ | refine so_build' tabOk lx rfl rfl rfl rfl rfl rfl (by kernel_rfl) ?_ | refine so_index1n tabOk lx rfl rfl rfl rfl (by omega) (by kernel_rfl) ?_ | refine so_indexn tabOk lx rfl rfl rfl rfl (by omega) (by kernel_rfl) ?_ | refine so_index1 tabOk lx rfl rfl rfl rfl (by omega) (by omega) (by kernel_rfl) ?_ | refine so_pass lx rfl rfl rfl (by kernel_rfl) ?_ | refine so_arith tabOk lx rfl rfl rfl rfl (by simp only [InR]; omega) (by kernel_rfl) ?_)
          refine so_single (by kernel_rfl) (th_store tabOk (by assumption) (by simp [cv, Cn.c1, cl]) [] (by kernel_rfl) rfl rfl rfl rfl rfl rfl (by repeat (first | exact Upd.here | apply Upd.there)) (by rfl) (by repeat (first | exact List.nil_sublist _ | refine List.Sublist.cons_cons _ ?_ | refine List.Sublist.cons _ ?_)) ?_)
          intro W13 H13
          refine so_done ?_
          exact mid_done (ad3, cp3, ad7, cp7, ad11, cp11) (by exact (by repeat (first | exact less_nil | refine less_cons rfl ?_))) (by dsimp only; exact Hp.picks (by assumption) (by repeat (first | exact Picks.nil | (apply Picks.cons; (repeat (first | exact Pick.here | apply Pick.there))))))
      · refine th_lit tabOk (by assumption) [0, 3, 7, 11, 12, 13] (by kernel_rfl) rfl rfl rfl rfl rfl rfl rfl rfl rfl rfl rfl (fun _ => (by repeat (first | exact List.nil_sublist _ | refine List.Sublist.cons_cons _ ?_ | refine List.Sublist.cons _ ?_))) ?_
        intro b4 W4 H4
        refine so_single (by kernel_rfl) (th_lit tabOk (by assumption) [3, 7, 11, 12, 13] (by kernel_rfl) rfl rfl rfl rfl rfl rfl rfl rfl rfl rfl rfl (fun _ => (by repeat (first | exact List.nil_sublist _ | refine List.Sublist.cons_cons _ ?_ | refine List.Sublist.cons _ ?_))) ?_)
        intro b0 W0 H0
        refine so_single (by kernel_rfl) (th_append tabOk (by assumption) [7, 11, 12, 13] (by kernel_rfl) rfl rfl rfl rfl rfl rfl rfl rfl rfl (fun _ _ => (by repeat (first | exact Upd.here | apply Upd.there))) (hs1 (by assumption)) (by omega) (fun _ _ => (by repeat (first | exact List.nil_sublist _ | refine List.Sublist.cons_cons _ ?_ | refine List.Sublist.cons _ ?_))) ?_)
        intro ad3 cp3 W3 H3
        simp only [Nat.zero_add, List.nil_append] at H3 ⊢
        refine so_single (by kernel_rfl) (th_append tabOk (by assumption) [11, 12, 13] (by kernel_rfl) rfl rfl rfl rfl rfl rfl rfl rfl rfl (fun _ _ => (by repeat (first | exact Upd.here | apply Upd.there))) (hs2 (by assumption)) (by omega) (fun _ _ => (by repeat (first | exact List.nil_sublist _ | refine List.Sublist.cons_cons _ ?_ | refine List.Sublist.cons _ ?_))) ?_)
        intro ad7 cp7 W7 H7
        simp only [Nat.zero_add, List.nil_append] at H7 ⊢
        refine so_single (by kernel_rfl) (th_append tabOk (by assumption) [12, 13] (by kernel_rfl) rfl rfl rfl rfl rfl rfl rfl rfl rfl (fun _ _ => (by repeat (first | exact Upd.here | apply Upd.there))) (hs3 (by assumption)) (by omega) (fun _ _ => (by repeat (first | exact List.nil_sublist _ | refine List.Sublist.cons_cons _ ?_ | refine List.Sublist.cons _ ?_))) ?_)
        intro ad11 cp11 W11 H11
        simp only [Nat.zero_add, List.nil_append] at H11 ⊢
        repeat (first | refine so_pure tabOk lx rfl rfl rfl rfl (by kernel_rfl) ?_ | refine so_load' tabOk lx rfl rfl rfl rfl (by repeat (first | exact List.Mem.head _ | apply List.Mem.tail)) (by rfl) (by rfl) (by kernel_rfl) ?_ | refine so_loada' tabOk lx rfl rfl rfl rfl (by repeat (first | exact List.Mem.head _ | apply List.Mem.tail)) (by rfl) (by kernel_rfl) ?_ | refine so_len tabOk lx rfl rfl rfl rfl (by kernel_rfl) ?_ | refine so_build' tabOk lx rfl rfl rfl rfl rfl rfl (by kernel_rfl) ?_ | refine so_index1n tabOk lx rfl rfl rfl rfl (by omega) (by kernel_rfl) ?_ | refine so_indexn tabOk lx rfl rfl rfl rfl (by omega) (by kernel_rfl) ?_ | refine so_index1 tabOk lx rfl rfl rfl rfl (by omega) (by omega) (by kernel_rfl) ?_ | refine so_pass lx rfl rfl rfl (by kernel_rfl) ?_ | refine so_arith tabOk lx rfl rfl rfl rfl (by simp only [InR]; omega) (by kernel_rfl) ?_)
        refine so_single (by kernel_rfl) (th_store tabOk (by assumption) (by simp [cv, Cn.c1, cl]) [] (by kernel_rfl) rfl rfl rfl rfl rfl rfl (by repeat (first | exact Upd.here | apply Upd.there)) (by rfl) (by repeat (first | exact List.nil_sublist _ | refine List.Sublist.cons_cons _ ?_ | refine List.Sublist.cons _ ?_)) ?_)
        intro W13 H13
        refine so_done ?_
        exact mid_done (ad3, cp3, ad7, cp7, ad11, cp11) (by exact (by repeat (first | exact less_nil | refine less_cons rfl ?_))) (by dsimp only; exact Hp.picks (by assumption) (by repeat (first | exact Picks.nil | (apply Picks.cons; (repeat (first | exact Pick.here | apply Pick.there))))))
  rintro ⟨a1, c1, a2, c2, a3, c3⟩ W20 H20
  dsimp only at H20 ⊢
  repeat' (first | refine s_pure tabOk rfl rfl rfl rfl ?_ | refine Stp.imp ?_ | refine aops_nil ?_ | refine aw_reg ?_ | refine aw_seq ?_ | refine s_pass rfl rfl rfl ?_ | refine s_len tabOk rfl rfl rfl rfl ?_ | refine aw_true rfl ?_ | refine aw_false rfl ?_ | refine blk_exit_other rfl ?_ | refine s_arith tabOk rfl rfl rfl rfl (by simp only [InR]; omega) ?_ | ((first | ((fail_if_success refine s_told rfl rfl ?_); refine s_part rfl rfl rfl ?_ ?_) | refine aw_if rfl ?_ ?_) <;> intro hc <;> (first | replace hc := DecT.imp hc | simp only [decs] at hc | skip)) | refine s_index1n tabOk rfl rfl rfl rfl (by omega) ?_ | refine s_indexn tabOk rfl rfl rfl rfl (by omega) ?_ | refine s_index1 tabOk rfl rfl rfl rfl (by omega) (by omega) ?_ | refine sh_load tabOk (by assumption) rfl rfl rfl rfl (by repeat (first | exact List.Mem.head _ | apply List.Mem.tail)) (by rfl) (by rfl) ?_ | refine sh_loada tabOk (by assumption) rfl rfl rfl rfl (by repeat (first | exact List.Mem.head _ | apply List.Mem.tail)) (by rfl) ?_ | (refine sh_box (by assumption) rfl rfl rfl rfl rfl rfl ?_; intro _ _ _) | (refine sh_alloc tabOk (by assumption) rfl rfl rfl rfl rfl rfl ?_; intro _ _ _) | (refine sh_store tabOk (by assumption) rfl rfl rfl rfl rfl rfl (by repeat (first | exact Upd.here | apply Upd.there)) (by rfl) ?_; intro _ _) | (refine sh_lit tabOk (by assumption) rfl rfl rfl rfl rfl rfl rfl rfl rfl rfl rfl ?_; intro _ _ _) | refine sh_build tabOk rfl rfl rfl rfl rfl rfl ?_)
  refine retK_ret tabOk (congrArg Array.toList Try.results65) (by repeat (first | exact rv_nil | apply rv_tmp rfl rfl | apply rv_cellH (by assumption) rfl rfl rfl (by repeat (first | exact List.Mem.head _ | apply List.Mem.tail)) rfl)) ?_
  exact ⟨_, _, _, _, _, _, rfl, Hp.picks (by assumption) (by repeat (first | exact Picks.nil | (apply Picks.cons; (repeat (first | exact Pick.here | apply Pick.there)))))⟩
theorem c_spec_l06Own (hB : B ≤ W.heap.size) {b : Nat} {e : TypeId} (hb : (Res.blk b (rvC p1 k1 p2 k2 p3 k3 r) e).ok W) (hv : RvS W p1 k1 p2 k2 p3 k3 r) (hs : r.small) :
    ACalls Try.prog B 60 [.pointer (some ⟨b, 0, none⟩)] W (fun v W' => ∃ p1 k1 p2 k2 p3 k3, v = rvV p1 k1 p2 k2 p3 k3 r ∧ Hp B W W' (rvR p1 k1 p2 k2 p3 k3 r)) := by
  have H0 : Hp B W W [] := Hp.new hB
  obtain ⟨s1, s2, s3⟩ := hs
  have hs1 : ∀ {W' : World} {L' : List Res}, Hp B W W' L' → SlV W' 1 (.slice p1 r.ds.length k1) r.ds.length (iC r.ds) := fun H => H.sliA hv.d
  have hs2 : ∀ {W' : World} {L' : List Res}, Hp B W W' L' → SlV W' 4 (.slice p2 r.dm.length k2) r.dm.length (dCs r.dm) := fun H => Hp.sldA H hv.m
  have hs3 : ∀ {W' : World} {L' : List Res}, Hp B W W' L' → SlV W' 1 (.slice p3 r.ws.length k3) r.ws.length (iC r.ws) := fun H => H.sliA hv.w
  refine acalls_of Try.func60 rfl Try.ntmps60 (Nat.le_of_ble_eq_true rfl) ?_
  repeat' (first | refine s_pure tabOk rfl rfl rfl rfl ?_ | refine Stp.imp ?_ | refine aops_nil ?_ | refine aw_reg ?_ | refine aw_seq ?_ | refine s_pass rfl rfl rfl ?_ | refine s_len tabOk rfl rfl rfl rfl ?_ | refine aw_true rfl ?_ | refine aw_false rfl ?_ | refine blk_exit_other rfl ?_ | refine s_arith tabOk rfl rfl rfl rfl (by simp only [InR]; omega) ?_ | ((first | ((fail_if_success refine s_told rfl rfl ?_); refine s_part rfl rfl rfl ?_ ?_) | refine aw_if rfl ?_ ?_) <;> intro hc <;> (first | replace hc := DecT.imp hc | simp only [decs] at hc | skip)) | refine s_index1n tabOk rfl rfl rfl rfl (by omega) ?_ | refine s_indexn tabOk rfl rfl rfl rfl (by omega) ?_ | refine s_index1 tabOk rfl rfl rfl rfl (by omega) (by omega) ?_ | refine sh_load tabOk (by assumption) rfl rfl rfl rfl (by repeat (first | exact List.Mem.head _ | apply List.Mem.tail)) (by rfl) (by rfl) ?_ | refine sh_loada tabOk (by assumption) rfl rfl rfl rfl (by repeat (first | exact List.Mem.head _ | apply List.Mem.tail)) (by rfl) ?_ | (refine sh_box (by assumption) rfl rfl rfl rfl rfl rfl ?_; intro _ _ _) | (refine sh_alloc tabOk (by assumption) rfl rfl rfl rfl rfl rfl ?_; intro _ _ _) | (refine sh_store tabOk (by assumption) rfl rfl rfl rfl rfl rfl (by repeat (first | exact Upd.here | apply Upd.there)) (by rfl) ?_; intro _ _) | (refine sh_lit tabOk (by assumption) rfl rfl rfl rfl rfl rfl rfl rfl rfl rfl rfl ?_; intro _ _ _) | refine sh_build tabOk rfl rfl rfl rfl rfl rfl ?_)
  rename_i b2 W2 H2
  have hq : ∀ {N : Nat} {E : Env} {o : Oper} {W1 : World} (j : Nat) {v : Value}, Hp B W W1 [] → evLd tab E o = some ⟨b, j, none⟩ → subCells (rvC p1 k1 p2 k2 p3 k3 r) j 1 = some [v] → cv v = v → Gives Try.prog N B o E W1 v W1 := fun j v H1 h1 h2 h3 => by
    have h := (subCells_spec _ _ _ _ h2).1
    have h4 := congrArg (fun l => l[0]?) h
    exact gh_load tabOk h1 (blk_below hb H1.below) (by simpa [List.getElem?_take, List.getElem?_drop] using h4) h3
  refine aw_cut (A := W) (fun x : Option Addr × Nat × Option Addr × Nat × Option Addr × Nat => [(2, .pointer (some ⟨b2, 0, none⟩))])
    (fun x => .blk b2 [.slice x.1 r.ds.length x.2.1, .slice x.2.2.1 r.dm.length x.2.2.2.1, .slice x.2.2.2.2.1 r.ws.length x.2.2.2.2.2] 29 :: rvR x.1 x.2.1 x.2.2.1 x.2.2.2.1 x.2.2.2.2.1 x.2.2.2.2.2 r) ?_ ?_
  · refine aw_told followsMixed (DH B W []) [1, 2, 3, 4, 7, 8, 9, 10, 13, 14, 15, 16, 0, 6, 12, 5, 11, 17, 18, 19] (by kernel_rfl) (H2.picks (by repeat (first | exact Picks.nil | (apply Picks.cons; (repeat (first | exact Pick.here | apply Pick.there)))))) ?_
    repeat (first | refine so_pure tabOk lx rfl rfl rfl rfl (by kernel_rfl) ?_ | refine so_load' tabOk lx rfl rfl rfl rfl (by repeat (first | exact List.Mem.head _ | apply List.Mem.tail)) (by rfl) (by rfl) (by kernel_rfl) ?_ | refine so_loada' tabOk lx rfl rfl rfl rfl (by repeat (first | exact List.Mem.head _ | apply List.Mem.tail)) (by rfl) (by kernel_rfl) ?_ | refine so_len tabOk lx rfl rfl rfl rfl (by kernel_rfl) ?_ | refine so_build' tabOk lx rfl rfl rfl rfl rfl rfl (by kernel_rfl) ?_ | refine so_index1n tabOk lx rfl rfl rfl rfl (by omega) (by kernel_rfl) ?_ | refine so_indexn tabOk lx rfl rfl rfl rfl (by omega) (by kernel_rfl) ?_ | refine so_index1 tabOk lx rfl rfl rfl rfl (by omega) (by omega) (by kernel_rfl) ?_ | refine so_pass lx rfl rfl rfl (by kernel_rfl) ?_ | refine so_arith tabOk lx rfl rfl rfl rfl (by simp only [InR]; omega) (by kernel_rfl) ?_)
    refine so_gives lx rfl rfl rfl (by kernel_rfl) (fun W1 h1 => hq 0 (Hp.sub h1 (by repeat (first | exact List.nil_sublist _ | refine List.Sublist.cons_cons _ ?_ | refine List.Sublist.cons _ ?_))) rfl rfl rfl) ?_
    repeat (first | refine so_pure tabOk lx rfl rfl rfl rfl (by kernel_rfl) ?_ | refine so_load' tabOk lx rfl rfl rfl rfl (by repeat (first | exact List.Mem.head _ | apply List.Mem.tail)) (by rfl) (by rfl) (by kernel_rfl) ?_ | refine so_loada' tabOk lx rfl rfl rfl rfl (by repeat (first | exact List.Mem.head _ | apply List.Mem.tail)) (by rfl) (by kernel_rfl) ?_ | refine so_len tabOk lx rfl rfl rfl rfl (by kernel_rfl) ?_ | refine so_build' tabOk lx rfl rfl rfl rfl rfl rfl (by kernel_rfl) ?_ | refine so_index1n tabOk lx rfl rfl rfl rfl (by omega) (by kernel_rfl) ?_ | refine so_indexn tabOk lx rfl rfl rfl rfl (by omega) (by kernel_rfl) ?_ | refine so_index1 tabOk lx rfl rfl rfl rfl (by omega) (by omega) (by kernel_rfl) ?_ | refine so_pass lx rfl rfl rfl (by kernel_rfl) ?_ | refine so_arith tabOk lx rfl rfl rfl rfl (by simp only [InR]; omega) (by kernel_rfl) ?_)
    refine so_gives lx rfl rfl rfl (by kernel_rfl) (fun W1 h1 => hq 1 (Hp.sub h1 (by repeat (first | exact List.nil_sublist _ | refine List.Sublist.cons_cons _ ?_ | refine List.Sublist.cons _ ?_))) rfl rfl rfl) ?_
    repeat (first | refine so_pure tabOk lx rfl rfl rfl rfl (by kernel_rfl) ?_ | refine so_load' tabOk lx rfl rfl rfl rfl (by repeat (first | exact List.Mem.head _ | apply List.Mem.tail)) (by rfl) (by rfl) (by kernel_rfl) ?_ | refine so_loada' tabOk lx rfl rfl rfl rfl (by repeat (first | exact List.Mem.head _ | apply List.Mem.tail)) (by rfl) (by kernel_rfl) ?_ | refine so_len tabOk lx rfl rfl rfl rfl (by kernel_rfl) ?_ | refine so_build' tabOk lx rfl rfl rfl rfl rfl rfl (by kernel_rfl) ?_ | refine so_index1n tabOk lx rfl rfl rfl rfl (by omega) (by kernel_rfl) ?_ | refine so_indexn tabOk lx rfl rfl rfl rfl (by omega) (by kernel_rfl) ?_ | refine so_index1 tabOk lx rfl rfl rfl rfl (by omega) (by omega) (by kernel_rfl) ?_ | refine so_pass lx rfl rfl rfl (by kernel_rfl) ?_ | refine so_arith tabOk lx rfl rfl rfl rfl (by simp only [InR]; omega) (by kernel_rfl) ?_)
    refine so_gives lx rfl rfl rfl (by kernel_rfl) (fun W1 h1 => hq 2 (Hp.sub h1 (by repeat (first | exact List.nil_sublist _ | refine List.Sublist.cons_cons _ ?_ | refine List.Sublist.cons _ ?_))) rfl rfl rfl) ?_
    repeat (first | refine so_pure tabOk lx rfl rfl rfl rfl (by kernel_rfl) ?_ | refine so_load' tabOk lx rfl rfl rfl rfl (by repeat (first | exact List.Mem.head _ | apply List.Mem.tail)) (by rfl) (by rfl) (by kernel_rfl) ?_ | refine so_loada' tabOk lx rfl rfl rfl rfl (by repeat (first | exact List.Mem.head _ | apply List.Mem.tail)) (by rfl) (by kernel_rfl) ?_ | refine so_len tabOk lx rfl rfl rfl rfl (by kernel_rfl) ?_ | refine so_build' tabOk lx rfl rfl rfl rfl rfl rfl (by kernel_rfl) ?_ | refine so_index1n tabOk lx rfl rfl rfl rfl (by omega) (by kernel_rfl) ?_ | refine so_indexn tabOk lx rfl rfl rfl rfl (by omega) (by kernel_rfl) ?_ | refine so_index1 tabOk lx rfl rfl rfl rfl (by omega) (by omega) (by kernel_rfl) ?_ | refine so_pass lx rfl rfl rfl (by kernel_rfl) ?_ | refine so_arith tabOk lx rfl rfl rfl rfl (by simp only [InR]; omega) (by kernel_rfl) ?_)
    refine so_all [0, 6, 12] (by kernel_rfl) (x_one ?_ (x_one ?_ (x_one ?_ x_none)))
    · refine th_lit tabOk (by assumption) [5, 6, 12, 11, 17, 18, 19] (by kernel_rfl) rfl rfl rfl rfl rfl rfl rfl rfl rfl rfl rfl (fun _ => (by repeat (first | exact List.nil_sublist _ | refine List.Sublist.cons_cons _ ?_ | refine List.Sublist.cons _ ?_))) ?_
      intro b0 W0 H0
      refine so_all [5, 6, 12] (by kernel_rfl) (x_one ?_ (x_one ?_ (x_one ?_ x_none)))
      · refine th_append tabOk (by assumption) [6, 12, 11, 17, 18, 19] (by kernel_rfl) rfl rfl rfl rfl rfl rfl rfl rfl rfl (fun _ _ => (by repeat (first | exact Upd.here | apply Upd.there))) (hs1 (by assumption)) (by omega) (fun _ _ => (by repeat (first | exact List.nil_sublist _ | refine List.Sublist.cons_cons _ ?_ | refine List.Sublist.cons _ ?_))) ?_
        intro ad5 cp5 W5 H5
        simp only [Nat.zero_add, List.nil_append] at H5 ⊢
        refine so_all [6, 12] (by kernel_rfl) (x_one ?_ (x_one ?_ x_none))
        · refine th_lit tabOk (by assumption) [11, 12, 17, 18, 19] (by kernel_rfl) rfl rfl rfl rfl rfl rfl rfl rfl rfl rfl rfl (fun _ => (by repeat (first | exact List.nil_sublist _ | refine List.Sublist.cons_cons _ ?_ | refine List.Sublist.cons _ ?_))) ?_
          intro b6 W6 H6
          refine so_all [11, 12] (by kernel_rfl) (x_one ?_ (x_one ?_ x_none))
          · refine th_append tabOk (by assumption) [12, 17, 18, 19] (by kernel_rfl) rfl rfl rfl rfl rfl rfl rfl rfl rfl (fun _ _ => (by repeat (first | exact Upd.here | apply Upd.there))) (hs2 (by assumption)) (by omega) (fun _ _ => (by repeat (first | exact List.nil_sublist _ | refine List.Sublist.cons_cons _ ?_ | refine List.Sublist.cons _ ?_))) ?_
            intro ad11 cp11 W11 H11
            simp only [Nat.zero_add, List.nil_append] at H11 ⊢
            refine so_single (by kernel_rfl) (th_lit tabOk (by assumption) [17, 18, 19] (by kernel_rfl) rfl rfl rfl rfl rfl rfl rfl rfl rfl rfl rfl (fun _ => (by repeat (first | exact List.nil_sublist _ | refine List.Sublist.cons_cons _ ?_ | refine List.Sublist.cons _ ?_))) ?_)
            intro b12 W12 H12
            refine so_single (by kernel_rfl) (th_append tabOk (by assumption) [18, 19] (by kernel_rfl) rfl rfl rfl rfl rfl rfl rfl rfl rfl (fun _ _ => (by repeat (first | exact Upd.here | apply Upd.there))) (hs3 (by assumption)) (by omega) (fun _ _ => (by repeat (first | exact List.nil_sublist _ | refine List.Sublist.cons_cons _ ?_ | refine List.Sublist.cons _ ?_))) ?_)
            intro ad17 cp17 W17 H17
            simp only [Nat.zero_add, List.nil_append] at H17 ⊢
            repeat (first | refine so_pure tabOk lx rfl rfl rfl rfl (by kernel_rfl) ?_ | refine so_load' tabOk lx rfl rfl rfl rfl (by repeat (first | exact List.Mem.head _ | apply List.Mem.tail)) (by rfl) (by rfl) (by kernel_rfl) ?_ | refine so_loada' tabOk lx rfl rfl rfl rfl (by repeat (first | exact List.Mem.head _ | apply List.Mem.tail)) (by rfl) (by kernel_rfl) ?_ | refine so_len tabOk lx rfl rfl rfl rfl (by kernel_rfl) ?_ | refine so_build' tabOk lx rfl rfl rfl rfl rfl rfl (by kernel_rfl) ?_ | refine so_index1n tabOk lx rfl rfl rfl rfl (by omega) (by kernel_rfl) ?_ | refine so_indexn tabOk lx rfl rfl rfl rfl (by omega) (by kernel_rfl) ?_ | refine so_index1 tabOk lx rfl rfl rfl rfl (by omega) (by omega) (by kernel_rfl) ?_ | refine so_pass lx rfl rfl rfl (by kernel_rfl) ?_ | refine so_arith tabOk lx rfl rfl rfl rfl (by simp only [InR]; omega) (by kernel_rfl) ?_)
            refine so_single (by kernel_rfl) (th_store tabOk (by assumption) (by simp [cv, Cn.c1, cl]) [] (by kernel_rfl) rfl rfl rfl rfl rfl rfl (by repeat (first | exact Upd.here | apply Upd.there)) (by rfl) (by repeat (first | exact List.nil_sublist _ | refine List.Sublist.cons_cons _ ?_ | refine List.Sublist.cons _ ?_)) ?_)
            intro W19 H19
            refine so_done ?_
            exact mid_done (ad5, cp5, ad11, cp11, ad17, cp17) (by exact (by repeat (first | exact less_nil | refine less_cons rfl ?_))) (by dsimp only; exact Hp.picks (by assumption) (by repeat (first | exact Picks.nil | (apply Picks.cons; (repeat (first | exact Pick.here | apply Pick.there))))))
          · refine th_lit tabOk (by assumption) [11, 17, 18, 19] (by kernel_rfl) rfl rfl rfl rfl rfl rfl rfl rfl rfl rfl rfl (fun _ => (by repeat (first | exact List.nil_sublist _ | refine List.Sublist.cons_cons _ ?_ | refine List.Sublist.cons _ ?_))) ?_
            intro b12 W12 H12
            refine so_single (by kernel_rfl) (th_append tabOk (by assumption) [17, 18, 19] (by kernel_rfl) rfl rfl rfl rfl rfl rfl rfl rfl rfl (fun _ _ => (by repeat (first | exact Upd.here | apply Upd.there))) (hs2 (by assumption)) (by omega) (fun _ _ => (by repeat (first | exact List.nil_sublist _ | refine List.Sublist.cons_cons _ ?_ | refine List.Sublist.cons _ ?_))) ?_)
            intro ad11 cp11 W11 H11
            simp only [Nat.zero_add, List.nil_append] at H11 ⊢
            refine so_single (by kernel_rfl) (th_append tabOk (by assumption) [18, 19] (by kernel_rfl) rfl rfl rfl rfl rfl rfl rfl rfl rfl (fun _ _ => (by repeat (first | exact Upd.here | apply Upd.there))) (hs3 (by assumption)) (by omega) (fun _ _ => (by repeat (first | exact List.nil_sublist _ | refine List.Sublist.cons_cons _ ?_ | refine List.Sublist.cons _ ?_))) ?_)
            intro ad17 cp17 W17 H17
            simp only [Nat.zero_add, List.nil_append] at H17 ⊢
            repeat (first | refine so_pure tabOk lx rfl rfl rfl rfl (by kernel_rfl) ?_ | refine so_load' tabOk lx rfl rfl rfl rfl (by repeat (first | exact List.Mem.head _ | apply List.Mem.tail)) (by rfl) (by rfl) (by kernel_rfl) ?_ | refine so_loada' tabOk lx rfl rfl rfl rfl (by repeat (first | exact List.Mem.head _ | apply List.Mem.tail)) (by rfl) (by kernel_rfl) ?_ | refine so_len tabOk lx rfl rfl rfl rfl (by kernel_rfl) ?_ | refine so_build' tabOk lx rfl rfl rfl rfl rfl rfl (by kernel_rfl) ?_ | refine so_index1n tabOk lx rfl rfl rfl rfl (by omega) (by kernel_rfl) ?_ | refine so_indexn tabOk lx rfl rfl rfl rfl (by omega) (by kernel_rfl) ?_ | refine so_index1 tabOk lx rfl rfl rfl rfl (by omega) (by omega) (by kernel_rfl) ?_ | refine so_pass lx rfl rfl rfl (by kernel_rfl) ?_ | refine so_arith tabOk lx rfl rfl rfl rfl (by simp only [InR]; omega) (by kernel_rfl) ?_)
            refine so_single (by kernel_rfl) (th_store tabOk (by assumption) (by simp [cv, Cn.c1, cl]) [] (by kernel_rfl) rfl rfl rfl rfl rfl rfl (by repeat (first | exact Upd.here | apply Upd.there)) (by rfl) (by repeat (first | exact List.nil_sublist _ | refine List.Sublist.cons_cons _ ?_ | refine List.Sublist.cons _ ?_)) ?_)
            intro W19 H19
            refine so_done ?_
            exact mid_done (ad5, cp5, ad11, cp11, ad17, cp17) (by exact (by repeat (first | exact less_nil | refine less_cons rfl ?_))) (by dsimp only; exact Hp.picks (by assumption) (by repeat (first | exact Picks.nil | (apply Picks.cons; (repeat (first | exact Pick.here | apply Pick.there))))))
        · refine th_lit tabOk (by assumption) [6, 11, 17, 18, 19] (by kernel_rfl) rfl rfl rfl rfl rfl rfl rfl rfl rfl rfl rfl (fun _ => (by repeat (first | exact List.nil_sublist _ | refine List.Sublist.cons_cons _ ?_ | refine List.Sublist.cons _ ?_))) ?_
          intro b12 W12 H12
          refine so_single (by kernel_rfl) (th_lit tabOk (by assumption) [11, 17, 18, 19] (by kernel_rfl) rfl rfl rfl rfl rfl rfl rfl rfl rfl rfl rfl (fun _ => (by repeat (first | exact List.nil_sublist _ | refine List.Sublist.cons_cons _ ?_ | refine List.Sublist.cons _ ?_))) ?_)
          intro b6 W6 H6
          refine so_single (by kernel_rfl) (th_append tabOk (by assumption) [17, 18, 19] (by kernel_rfl) rfl rfl rfl rfl rfl rfl rfl rfl rfl (fun _ _ => (by repeat (first | exact Upd.here | apply Upd.there))) (hs2 (by assumption)) (by omega) (fun _ _ => (by repeat (first | exact List.nil_sublist _ | refine List.Sublist.cons_cons _ ?_ | refine List.Sublist.cons _ ?_))) ?_)
          intro ad11 cp11 W11 H11
          simp only [Nat.zero_add, List.nil_append] at H11 ⊢
          refine so_single (by kernel_rfl) (th_append tabOk (by assumption) [18, 19] (by kernel_rfl) rfl rfl rfl rfl rfl rfl rfl rfl rfl (fun _ _ => (by repeat (first | exact Upd.here | apply Upd.there))) (hs3 (by assumption)) (by omega) (fun _ _ => (by repeat (first | exact List.nil_sublist _ | refine List.Sublist.cons_cons _ ?_ | refine List.Sublist.cons _ ?_))) ?_)
          intro ad17 cp17 W17 H17
          simp only [Nat.zero_add, List.nil_append] at H17 ⊢
          repeat (first | refine so_pure tabOk lx rfl rfl rfl rfl (by kernel_rfl) ?_ | refine so_load' tabOk lx rfl rfl rfl rfl (by repeat (first | exact List.Mem.head _ | apply List.Mem.tail)) (by rfl) (by rfl) (by kernel_rfl) ?_ | refine so_loada' tabOk lx rfl rfl rfl rfl (by repeat (first | exact List.Mem.head _ | apply List.Mem.tail)) (by rfl) (by kernel_rfl) ?_ | refine so_len tabOk lx rfl rfl rfl rfl (by kernel_rfl) ?_ | refine so_build' tabOk lx rfl rfl rfl rfl rfl rfl (by kernel_rfl) ?_ | refine so_index1n tabOk lx rfl rfl rfl rfl (by omega) (by kernel_rfl) ?_ | refine so_indexn tabOk lx rfl rfl rfl rfl (by omega) (by kernel_rfl) ?_ | refine so_index1 tabOk lx rfl rfl rfl rfl (by omega) (by omega) (by kernel_rfl) ?_ | refine so_pass lx rfl rfl rfl (by kernel_rfl) ?_ | refine so_arith tabOk lx rfl rfl rfl rfl (by simp only [InR]; omega) (by kernel_rfl) ?_)
          refine so_single (by kernel_rfl) (th_store tabOk (by assumption) (by simp [cv, Cn.c1, cl]) [] (by kernel_rfl) rfl rfl rfl rfl rfl rfl (by repeat (first | exact Upd.here | apply Upd.there)) (by rfl) (by repeat (first | exact List.nil_sublist _ | refine List.Sublist.cons_cons _ ?_ | refine List.Sublist.cons _ ?_)) ?_)
          intro W19 H19
          refine so_done ?_
          exact mid_done (ad5, cp5, ad11, cp11, ad17, cp17) (by exact (by repeat (first | exact less_nil | refine less_cons rfl ?_))) (by dsimp only; exact Hp.picks (by assumption) (by repeat (first | exact Picks.nil | (apply Picks.cons; (repeat (first | exact Pick.here | apply Pick.there))))))
      · refine th_lit tabOk (by assumption) [5, 12, 11, 17, 18, 19] (by kernel_rfl) rfl rfl rfl rfl rfl rfl rfl rfl rfl rfl rfl (fun _ => (by repeat (first | exact List.nil_sublist _ | refine List.Sublist.cons_cons _ ?_ | refine List.Sublist.cons _ ?_))) ?_
        intro b6 W6 H6
        refine so_all [5, 12] (by kernel_rfl) (x_one ?_ (x_one ?_ x_none))
        · refine th_append tabOk (by assumption) [11, 12, 17, 18, 19] (by kernel_rfl) rfl rfl rfl rfl rfl rfl rfl rfl rfl (fun _ _ => (by repeat (first | exact Upd.here | apply Upd.there))) (hs1 (by assumption)) (by omega) (fun _ _ => (by repeat (first | exact List.nil_sublist _ | refine List.Sublist.cons_cons _ ?_ | refine List.Sublist.cons _ ?_))) ?_
          intro ad5 cp5 W5 H5
          simp only [Nat.zero_add, List.nil_append] at H5 ⊢
          refine so_all [11, 12] (by kernel_rfl) (x_one ?_ (x_one ?_ x_none))
          · refine th_append tabOk (by assumption) [12, 17, 18, 19] (by kernel_rfl) rfl rfl rfl rfl rfl rfl rfl rfl rfl (fun _ _ => (by repeat (first | exact Upd.here | apply Upd.there))) (hs2 (by assumption)) (by omega) (fun _ _ => (by repeat (first | exact List.nil_sublist _ | refine List.Sublist.cons_cons _ ?_ | refine List.Sublist.cons _ ?_))) ?_
            intro ad11 cp11 W11 H11
            simp only [Nat.zero_add, List.nil_append] at H11 ⊢
            refine so_single (by kernel_rfl) (th_lit tabOk (by assumption) [17, 18, 19] (by kernel_rfl) rfl rfl rfl rfl rfl rfl rfl rfl rfl rfl rfl (fun _ => (by repeat (first | exact List.nil_sublist _ | refine List.Sublist.cons_cons _ ?_ | refine List.Sublist.cons _ ?_))) ?_)
            intro b12 W12 H12
            refine so_single (by kernel_rfl) (th_append tabOk (by assumption) [18, 19] (by kernel_rfl) rfl rfl rfl rfl rfl rfl rfl rfl rfl (fun _ _ => (by repeat (first | exact Upd.here | apply Upd.there))) (hs3 (by assumption)) (by omega) (fun _ _ => (by repeat (first | exact List.nil_sublist _ | refine List.Sublist.cons_cons _ ?_ | refine List.Sublist.cons _ ?_))) ?_)
            intro ad17 cp17 W17 H17
            simp only [Nat.zero_add, List.nil_append] at H17 ⊢
            repeat (first | refine so_pure tabOk lx rfl rfl rfl rfl (by kernel_rfl) ?_ | refine so_load' tabOk lx rfl rfl rfl rfl (by repeat (first | exact List.Mem.head _ | apply List.Mem.tail)) (by rfl) (by rfl) (by kernel_rfl) ?_ | refine so_loada' tabOk lx rfl rfl rfl rfl (by repeat (first | exact List.Mem.head _ | apply List.Mem.tail)) (by rfl) (by kernel_rfl) ?_ | refine so_len tabOk lx rfl rfl rfl rfl (by kernel_rfl) ?_ | refine so_build' tabOk lx rfl rfl rfl rfl rfl rfl (by kernel_rfl) ?_ | refine so_index1n tabOk lx rfl rfl rfl rfl (by omega) (by kernel_rfl) ?_ | refine so_indexn tabOk lx rfl rfl rfl rfl (by omega) (by kernel_rfl) ?_ | refine so_index1 tabOk lx rfl rfl rfl rfl (by omega) (by omega) (by kernel_rfl) ?_ | refine so_pass lx rfl rfl rfl (by kernel_rfl) ?_ | refine so_arith tabOk lx rfl rfl rfl rfl (by simp only [InR]; omega) (by kernel_rfl) ?_)
            refine so_single (by kernel_rfl) (th_store tabOk (by assumption) (by simp [cv, Cn.c1, cl]) [] (by kernel_rfl) rfl rfl rfl rfl rfl rfl (by repeat (first | exact Upd.here | apply Upd.there)) (by rfl) (by repeat (first | exact List.nil_sublist _ | refine List.Sublist.cons_cons _ ?_ | refine List.Sublist.cons _ ?_)) ?_)
            intro W19 H19
            refine so_done ?_
            exact mid_done (ad5, cp5, ad11, cp11, ad17, cp17) (by exact (by repeat (first | exact less_nil | refine less_cons rfl ?_))) (by dsimp only; exact Hp.picks (by assumption) (by repeat (first | exact Picks.nil | (apply Picks.cons; (repeat (first | exact Pick.here | apply Pick.there))))))
          · refine th_lit tabOk (by assumption) [11, 17, 18, 19] (by kernel_rfl) rfl rfl rfl rfl rfl rfl rfl rfl rfl rfl rfl (fun _ => (by repeat (first | exact List.nil_sublist _ | refine List.Sublist.cons_cons _ ?_ | refine List.Sublist.cons _ ?_))) ?_
            intro b12 W12 H12
            refine so_single (by kernel_rfl) (th_append tabOk (by assumption) [17, 18, 19] (by kernel_rfl) rfl rfl rfl rfl rfl rfl rfl rfl rfl (fun _ _ => (by repeat (first | exact Upd.here | apply Upd.there))) (hs2 (by assumption)) (by omega) (fun _ _ => (by repeat (first | exact List.nil_sublist _ | refine List.Sublist.cons_cons _ ?_ | refine List.Sublist.cons _ ?_))) ?_)
            intro ad11 cp11 W11 H11
            simp only [Nat.zero_add, List.nil_append] at H11 ⊢
            refine so_single (by kernel_rfl) (th_append tabOk (by assumption) [18, 19] (by kernel_rfl) rfl rfl rfl rfl rfl rfl rfl rfl rfl (fun _ _ => (by repeat (first | exact Upd.here | apply Upd.there))) (hs3 (by assumption)) (by omega) (fun _ _ => (by repeat (first | exact List.nil_sublist _ | refine List.Sublist.cons_cons _ ?_ | refine List.Sublist.cons _ ?_))) ?_)
            intro ad17 cp17 W17 H17
            simp only [Nat.zero_add, List.nil_append] at H17 ⊢
            repeat (first | refine so_pure tabOk lx rfl rfl rfl rfl (by kernel_rfl) ?_ | refine so_load' tabOk lx rfl rfl rfl rfl (by repeat (first | exact List.Mem.head _ | apply List.Mem.tail)) (by rfl) (by rfl) (by kernel_rfl) ?_ | refine so_loada' tabOk lx rfl rfl rfl rfl (by repeat (first | exact List.Mem.head _ | apply List.Mem.tail)) (by rfl) (by kernel_rfl) ?_ | refine so_len tabOk lx rfl rfl rfl rfl (by kernel_rfl) ?_ | refine so_build' tabOk lx rfl rfl rfl rfl rfl rfl (by kernel_rfl) ?_ | refine so_index1n tabOk lx rfl rfl rfl rfl (by omega) (by kernel_rfl) ?_ | refine so_indexn tabOk lx rfl rfl rfl rfl (by omega) (by kernel_rfl) ?_ | refine so_index1 tabOk lx rfl rfl rfl rfl (by omega) (by omega) (by kernel_rfl) ?_ | refine so_pass lx rfl rfl rfl (by kernel_rfl) ?_ | refine so_arith tabOk lx rfl rfl rfl rfl (by simp only [InR]; omega) (by kernel_rfl) ?_)
            refine so_single (by kernel_rfl) (th_store tabOk (by assumption) (by simp [cv, Cn.c1, cl]) [] (by kernel_rfl) rfl rfl rfl rfl rfl rfl (by repeat (first | exact Upd.here | apply Upd.there)) (by rfl) (by repeat (first | exact List.nil_sublist _ | refine List.Sublist.cons_cons _ ?_ | refine List.Sublist.cons _ ?_)) ?_)
            intro W19 H19
            refine so_done ?_
            exact mid_done (ad5, cp5, ad11, cp11, ad17, cp17) (by exact (by repeat (first | exact less_nil | refine less_cons rfl ?_))) (by dsimp only; exact Hp.picks (by assumption) (by repeat (first | exact Picks.nil | (apply Picks.cons; (repeat (first | exact Pick.here | apply Pick.there))))))
        · refine th_lit tabOk (by assumption) [5, 11, 17, 18, 19] (by kernel_rfl) rfl rfl rfl rfl rfl rfl rfl rfl rfl rfl rfl (fun _ => (by repeat (first | exact List.nil_sublist _ | refine List.Sublist.cons_cons _ ?_ | refine List.Sublist.cons _ ?_))) ?_
          intro b12 W12 H12
          refine so_single (by kernel_rfl) (th_append tabOk (by assumption) [11, 17, 18, 19] (by kernel_rfl) rfl rfl rfl rfl rfl rfl rfl rfl rfl (fun _ _ => (by repeat (first | exact Upd.here | apply Upd.there))) (hs1 (by assumption)) (by omega) (fun _ _ => (by repeat (first | exact List.nil_sublist _ | refine List.Sublist.cons_cons _ ?_ | refine List.Sublist.cons _ ?_))) ?_)
          intro ad5 cp5 W5 H5
          simp only [Nat.zero_add, List.nil_append] at H5 ⊢
          refine so_single (by kernel_rfl) (th_append tabOk (by assumption) [17, 18, 19] (by kernel_rfl) rfl rfl rfl rfl rfl rfl rfl rfl rfl (fun _ _ => (by repeat (first | exact Upd.here | apply Upd.there))) (hs2 (by assumption)) (by omega) (fun _ _ => (by repeat (first | exact List.nil_sublist _ | refine List.Sublist.cons_cons _ ?_ | refine List.Sublist.cons _ ?_))) ?_)
          intro ad11 cp11 W11 H11
          simp only [Nat.zero_add, List.nil_append] at H11 ⊢
          refine so_single (by kernel_rfl) (th_append tabOk (by assumption) [18, 19] (by kernel_rfl) rfl rfl rfl rfl rfl rfl rfl rfl rfl (fun _ _ => (by repeat (first | exact Upd.here | apply Upd.there))) (hs3 (by assumption)) (by omega) (fun _ _ => (by repeat (first | exact List.nil_sublist _ | refine List.Sublist.cons_cons _ ?_ | refine List.Sublist.cons _ ?_))) ?_)
          intro ad17 cp17 W17 H17
          simp only [Nat.zero_add, List.nil_append] at H17 ⊢
          repeat (first | refine so_pure tabOk lx rfl rfl rfl rfl (by kernel_rfl) ?_ | refine so_load' tabOk lx rfl rfl rfl rfl (by repeat (first | exact List.Mem.head _ | apply List.Mem.tail)) (by rfl) (by rfl) (by kernel_rfl) ?_ | refine so_loada' tabOk lx rfl rfl rfl rfl (by repeat (first | exact List.Mem.head _ | apply List.Mem.tail)) (by rfl) (by kernel_rfl) ?_ | refine so_len tabOk lx rfl rfl rfl rfl (by kernel_rfl) ?_ | refine so_build' tabOk lx rfl rfl rfl rfl rfl rfl (by kernel_rfl) ?_ | refine so_index1n tabOk lx rfl rfl rfl rfl (by omega) (by kernel_rfl) ?_ | refine so_indexn tabOk lx rfl rfl rfl rfl (by omega) (by kernel_rfl) ?_ | refine so_index1 tabOk lx rfl rfl rfl rfl (by omega) (by omega) (by kernel_rfl) ?_ | refine so_pass lx rfl rfl rfl (by kernel_rfl) ?_ | refine so_arith tabOk lx rfl rfl rfl rfl (by simp only [InR]; omega) (by kernel_rfl) ?_)
          refine so_single (by kernel_rfl) (th_store tabOk (by assumption) (by simp [cv, Cn.c1, cl]) [] (by kernel_rfl) rfl rfl rfl rfl rfl rfl (by repeat (first | exact Upd.here | apply Upd.there)) (by rfl) (by repeat (first | exact List.nil_sublist _ | refine List.Sublist.cons_cons _ ?_ | refine List.Sublist.cons _ ?_)) ?_)
          intro W19 H19
          refine so_done ?_
          exact mid_done (ad5, cp5, ad11, cp11, ad17, cp17) (by exact (by repeat (first | exact less_nil | refine less_cons rfl ?_))) (by dsimp only; exact Hp.picks (by assumption) (by repeat (first | exact Picks.nil | (apply Picks.cons; (repeat (first | exact Pick.here | apply Pick.there))))))
      · refine th_lit tabOk (by assumption) [5, 6, 11, 17, 18, 19] (by kernel_rfl) rfl rfl rfl rfl rfl rfl rfl rfl rfl rfl rfl (fun _ => (by repeat (first | exact List.nil_sublist _ | refine List.Sublist.cons_cons _ ?_ | refine List.Sublist.cons _ ?_))) ?_
        intro b12 W12 H12
        refine so_all [5, 6] (by kernel_rfl) (x_one ?_ (x_one ?_ x_none))
        · refine th_append tabOk (by assumption) [6, 11, 17, 18, 19] (by kernel_rfl) rfl rfl rfl rfl rfl rfl rfl rfl rfl (fun _ _ => (by repeat (first | exact Upd.here | apply Upd.there))) (hs1 (by assumption)) (by omega) (fun _ _ => (by repeat (first | exact List.nil_sublist _ | refine List.Sublist.cons_cons _ ?_ | refine List.Sublist.cons _ ?_))) ?_
          intro ad5 cp5 W5 H5
          simp only [Nat.zero_add, List.nil_append] at H5 ⊢
          refine so_single (by kernel_rfl) (th_lit tabOk (by assumption) [11, 17, 18, 19] (by kernel_rfl) rfl rfl rfl rfl rfl rfl rfl rfl rfl rfl rfl (fun _ => (by repeat (first | exact List.nil_sublist _ | refine List.Sublist.cons_cons _ ?_ | refine List.Sublist.cons _ ?_))) ?_)
          intro b6 W6 H6
          refine so_single (by kernel_rfl) (th_append tabOk (by assumption) [17, 18, 19] (by kernel_rfl) rfl rfl rfl rfl rfl rfl rfl rfl rfl (fun _ _ => (by repeat (first | exact Upd.here | apply Upd.there))) (hs2 (by assumption)) (by omega) (fun _ _ => (by repeat (first | exact List.nil_sublist _ | refine List.Sublist.cons_cons _ ?_ | refine List.Sublist.cons _ ?_))) ?_)
          intro ad11 cp11 W11 H11
          simp only [Nat.zero_add, List.nil_append] at H11 ⊢
          refine so_single (by kernel_rfl) (th_append tabOk (by assumption) [18, 19] (by kernel_rfl) rfl rfl rfl rfl rfl rfl rfl rfl rfl (fun _ _ => (by repeat (first | exact Upd.here | apply Upd.there))) (hs3 (by assumption)) (by omega) (fun _ _ => (by repeat (first | exact List.nil_sublist _ | refine List.Sublist.cons_cons _ ?_ | refine List.Sublist.cons _ ?_))) ?_)
          intro ad17 cp17 W17 H17
          simp only [Nat.zero_add, List.nil_append] at H17 ⊢
          repeat (first | refine so_pure tabOk lx rfl rfl rfl rfl (by kernel_rfl) ?_ | refine so_load' tabOk lx rfl rfl rfl rfl (by repeat (first | exact List.Mem.head _ | apply List.Mem.tail)) (by rfl) (by rfl) (by kernel_rfl) ?_ | refine so_loada' tabOk lx rfl rfl rfl rfl (by repeat (first | exact List.Mem.head _ | apply List.Mem.tail)) (by rfl) (by kernel_rfl) ?_ | refine so_len tabOk lx rfl rfl rfl rfl (by kernel_rfl) ?_ | refine so_build' tabOk lx rfl rfl rfl rfl rfl rfl (by kernel_rfl) ?_ | refine so_index1n tabOk lx rfl rfl rfl rfl (by omega) (by kernel_rfl) ?_ | refine so_indexn tabOk lx rfl rfl rfl rfl (by omega) (by kernel_rfl) ?_ | refine so_index1 tabOk lx rfl rfl rfl rfl (by omega) (by omega) (by kernel_rfl) ?_ | refine so_pass lx rfl rfl rfl (by kernel_rfl) ?_ | refine so_arith tabOk lx rfl rfl rfl rfl (by simp only [InR]; omega) (by kernel_rfl) ?_)
          refine so_single (by kernel_rfl) (th_store tabOk (by assumption) (by simp [cv, Cn.c1, cl]) [] (by kernel_rfl) rfl rfl rfl rfl rfl rfl (by repeat (first | exact Upd.here | apply Upd.there)) (by rfl) (by repeat (first | exact List.nil_sublist _ | refine List.Sublist.cons_cons _ ?_ | refine List.Sublist.cons _ ?_)) ?_)
          intro W19 H19
          refine so_done ?_
          exact mid_done (ad5, cp5, ad11, cp11, ad17, cp17) (by exact (by repeat (first | exact less_nil | refine less_cons rfl ?_))) (by dsimp only; exact Hp.picks (by assumption) (by repeat (first | exact Picks.nil | (apply Picks.cons; (repeat (first | exact Pick.here | apply Pick.there))))))
        · refine th_lit tabOk (by assumption) [5, 11, 17, 18, 19] (by kernel_rfl) rfl rfl rfl rfl rfl rfl rfl rfl rfl rfl rfl (fun _ => (by repeat (first | exact List.nil_sublist _ | refine List.Sublist.cons_cons _ ?_ | refine List.Sublist.cons _ ?_))) ?_
          intro b6 W6 H6
          refine so_single (by kernel_rfl) (th_append tabOk (by assumption) [11, 17, 18, 19] (by kernel_rfl) rfl rfl rfl rfl rfl rfl rfl rfl rfl (fun _ _ => (by repeat (first | exact Upd.here | apply Upd.there))) (hs1 (by assumption)) (by omega) (fun _ _ => (by repeat (first | exact List.nil_sublist _ | refine List.Sublist.cons_cons _ ?_ | refine List.Sublist.cons _ ?_))) ?_)
          intro ad5 cp5 W5 H5
          simp only [Nat.zero_add, List.nil_append] at H5 ⊢
          refine so_single (by kernel_rfl) (th_append tabOk (by assumption) [17, 18, 19] (by kernel_rfl) rfl rfl rfl rfl rfl rfl rfl rfl rfl (fun _ _ => (by repeat (first | exact Upd.here | apply Upd.there))) (hs2 (by assumption)) (by omega) (fun _ _ => (by repeat (first | exact List.nil_sublist _ | refine List.Sublist.cons_cons _ ?_ | refine List.Sublist.cons _ ?_))) ?_)
          intro ad11 cp11 W11 H11
          simp only [Nat.zero_add, List.nil_append] at H11 ⊢
          refine so_single (by kernel_rfl) (th_append tabOk (by assumption) [18, 19] (by kernel_rfl) rfl rfl rfl rfl rfl rfl rfl rfl rfl (fun _ _ => (by repeat (first | exact Upd.here | apply Upd.there))) (hs3 (by assumption)) (by omega) (fun _ _ => (by repeat (first | exact List.nil_sublist _ | refine List.Sublist.cons_cons _ ?_ | refine List.Sublist.cons _ ?_))) ?_)
          intro ad17 cp17 W17 H17
          simp only [Nat.zero_add, List.nil_append] at H17 ⊢
          repeat (first | refine so_pure tabOk lx rfl rfl rfl rfl (by kernel_rfl) ?_ | refine so_load' tabOk lx rfl rfl rfl rfl (by repeat (first | exact List.Mem.head _ | apply List.Mem.tail)) (by rfl) (by rfl) (by kernel_rfl) ?_ | refine so_loada' tabOk lx rfl rfl rfl rfl (by repeat (first | exact List.Mem.head _ | apply List.Mem.tail)) (by rfl) (by kernel_rfl) ?_ | refine so_len tabOk lx rfl rfl rfl rfl (by kernel_rfl) ?_ | refine so_build' tabOk lx rfl rfl rfl rfl rfl rfl (by kernel_rfl) ?_ | refine so_index1n tabOk lx rfl rfl rfl rfl (by omega) (by kernel_rfl) ?_ | refine so_indexn tabOk lx rfl rfl rfl rfl (by omega) (by kernel_rfl) ?_ | refine so_index1 tabOk lx rfl rfl rfl rfl (by omega) (by omega) (by kernel_rfl) ?_ | refine so_pass lx rfl rfl rfl (by kernel_rfl) ?_ | refine so_arith tabOk lx rfl rfl rfl rfl (by simp only [InR]; omega) (by kernel_rfl) ?_)
          refine so_single (by kernel_rfl) (th_store tabOk (by assumption) (by simp [cv, Cn.c1, cl]) [] (by kernel_rfl) rfl rfl rfl rfl rfl rfl (by repeat (first | exact Upd.here | apply Upd.there)) (by rfl) (by repeat (first | exact List.nil_sublist _ | refine List.Sublist.cons_cons _ ?_ | refine List.Sublist.cons _ ?_)) ?_)
          intro W19 H19
          refine so_done ?_
          exact mid_done (ad5, cp5, ad11, cp11, ad17, cp17) (by exact (by repeat (first | exact less_nil | refine less_cons rfl ?_))) (by dsimp only; exact Hp.picks (by assumption) (by repeat (first | exact Picks.nil | (apply Picks.cons; (repeat (first | exact Pick.here | apply Pick.there))))))
    · refine th_lit tabOk (by assumption) [0, 12, 5, 11, 17, 18, 19] (by kernel_rfl) rfl rfl rfl rfl rfl rfl rfl rfl rfl rfl rfl (fun _ => (by repeat (first | exact List.nil_sublist _ | refine List.Sublist.cons_cons _ ?_ | refine List.Sublist.cons _ ?_))) ?_
      intro b6 W6 H6
      refine so_all [0, 12] (by kernel_rfl) (x_one ?_ (x_one ?_ x_none))
      · refine th_lit tabOk (by assumption) [5, 12, 11, 17, 18, 19] (by kernel_rfl) rfl rfl rfl rfl rfl rfl rfl rfl rfl rfl rfl (fun _ => (by repeat (first | exact List.nil_sublist _ | refine List.Sublist.cons_cons _ ?_ | refine List.Sublist.cons _ ?_))) ?_
        intro b0 W0 H0
        refine so_all [5, 12] (by kernel_rfl) (x_one ?_ (x_one ?_ x_none))
        · refine th_append tabOk (by assumption) [11, 12, 17, 18, 19] (by kernel_rfl) rfl rfl rfl rfl rfl rfl rfl rfl rfl (fun _ _ => (by repeat (first | exact Upd.here | apply Upd.there))) (hs1 (by assumption)) (by omega) (fun _ _ => (by repeat (first | exact List.nil_sublist _ | refine List.Sublist.cons_cons _ ?_ | refine List.Sublist.cons _ ?_))) ?_
          intro ad5 cp5 W5 H5
          simp only [Nat.zero_add, List.nil_append] at H5 ⊢
          refine so_all [11, 12] (by kernel_rfl) (x_one ?_ (x_one ?_ x_none))
          · refine th_append tabOk (by assumption) [12, 17, 18, 19] (by kernel_rfl) rfl rfl rfl rfl rfl rfl rfl rfl rfl (fun _ _ => (by repeat (first | exact Upd.here | apply Upd.there))) (hs2 (by assumption)) (by omega) (fun _ _ => (by repeat (first | exact List.nil_sublist _ | refine List.Sublist.cons_cons _ ?_ | refine List.Sublist.cons _ ?_))) ?_
            intro ad11 cp11 W11 H11
            simp only [Nat.zero_add, List.nil_append] at H11 ⊢
            refine so_single (by kernel_rfl) (th_lit tabOk (by assumption) [17, 18, 19] (by kernel_rfl) rfl rfl rfl rfl rfl rfl rfl rfl rfl rfl rfl (fun _ => (by repeat (first | exact List.nil_sublist _ | refine List.Sublist.cons_cons _ ?_ | refine List.Sublist.cons _ ?_))) ?_)
            intro b12 W12 H12
            refine so_single (by kernel_rfl) (th_append tabOk (by assumption) [18, 19] (by kernel_rfl) rfl rfl rfl rfl rfl rfl rfl rfl rfl (fun _ _ => (by repeat (first | exact Upd.here | apply Upd.there))) (hs3 (by assumption)) (by omega) (fun _ _ => (by repeat (first | exact List.nil_sublist _ | refine List.Sublist.cons_cons _ ?_ | refine List.Sublist.cons _ ?_))) ?_)
            intro ad17 cp17 W17 H17
            simp only [Nat.zero_add, List.nil_append] at H17 ⊢
            repeat (first | refine so_pure tabOk lx rfl rfl rfl rfl (by kernel_rfl) ?_ | refine so_load' tabOk lx rfl rfl rfl rfl (by repeat (first | exact List.Mem.head _ | apply List.Mem.tail)) (by rfl) (by rfl) (by kernel_rfl) ?_ | refine so_loada' tabOk lx rfl rfl rfl rfl (by repeat (first | exact List.Mem.head _ | apply List.Mem.tail)) (by rfl) (by kernel_rfl) ?_ | refine so_len tabOk lx rfl rfl rfl rfl (by kernel_rfl) ?_ | refine so_build' tabOk lx rfl rfl rfl rfl rfl rfl (by kernel_rfl) ?_ | refine so_index1n tabOk lx rfl rfl rfl rfl (by omega) (by kernel_rfl) ?_ | refine so_indexn tabOk lx rfl rfl rfl rfl (by omega) (by kernel_rfl) ?_ | refine so_index1 tabOk lx rfl rfl rfl rfl (by omega) (by omega) (by kernel_rfl) ?_ | refine so_pass lx rfl rfl rfl (by kernel_rfl) ?_ | refine so_arith tabOk lx rfl rfl rfl rfl (by simp only [InR]; omega) (by kernel_rfl) ?_)
            refine so_single (by kernel_rfl) (th_store tabOk (by assumption) (by simp [cv, Cn.c1, cl]) [] (by kernel_rfl) rfl rfl rfl rfl rfl rfl (by repeat (first | exact Upd.here | apply Upd.there)) (by rfl) (by repeat (first | exact List.nil_sublist _ | refine List.Sublist.cons_cons _ ?_ | refine List.Sublist.cons _ ?_)) ?_)
            intro W19 H19
            refine so_done ?_
            exact mid_done (ad5, cp5, ad11, cp11, ad17, cp17) (by exact (by repeat (first | exact less_nil | refine less_cons rfl ?_))) (by dsimp only; exact Hp.picks (by assumption) (by repeat (first | exact Picks.nil | (apply Picks.cons; (repeat (first | exact Pick.here | apply Pick.there))))))
          · refine th_lit tabOk (by assumption) [11, 17, 18, 19] (by kernel_rfl) rfl rfl rfl rfl rfl rfl rfl rfl rfl rfl rfl (fun _ => (by repeat (first | exact List.nil_sublist _ | refine List.Sublist.cons_cons _ ?_ | refine List.Sublist.cons _ ?_))) ?_
            intro b12 W12 H12
            refine so_single (by kernel_rfl) (th_append tabOk (by assumption) [17, 18, 19] (by kernel_rfl) rfl rfl rfl rfl rfl rfl rfl rfl rfl (fun _ _ => (by repeat (first | exact Upd.here | apply Upd.there))) (hs2 (by assumption)) (by omega) (fun _ _ => (by repeat (first | exact List.nil_sublist _ | refine List.Sublist.cons_cons _ ?_ | refine List.Sublist.cons _ ?_))) ?_)
            intro ad11 cp11 W11 H11
            simp only [Nat.zero_add, List.nil_append] at H11 ⊢
            refine so_single (by kernel_rfl) (th_append tabOk (by assumption) [18, 19] (by kernel_rfl) rfl rfl rfl rfl rfl rfl rfl rfl rfl (fun _ _ => (by repeat (first | exact Upd.here | apply Upd.there))) (hs3 (by assumption)) (by omega) (fun _ _ => (by repeat (first | exact List.nil_sublist _ | refine List.Sublist.cons_cons _ ?_ | refine List.Sublist.cons _ ?_))) ?_)
            intro ad17 cp17 W17 H17
            simp only [Nat.zero_add, List.nil_append] at H17 ⊢
            repeat (first | refine so_pure tabOk lx rfl rfl rfl rfl (by kernel_rfl) ?_ | refine so_load' tabOk lx rfl rfl rfl rfl (by repeat (first | exact List.Mem.head _ | apply List.Mem.tail)) (by rfl) (by rfl) (by kernel_rfl) ?_ | refine so_loada' tabOk lx rfl rfl rfl rfl (by repeat (first | exact List.Mem.head _ | apply List.Mem.tail)) (by rfl) (by kernel_rfl) ?_ | refine so_len tabOk lx rfl rfl rfl rfl (by kernel_rfl) ?_ | refine so_build' tabOk lx rfl rfl rfl rfl rfl rfl (by kernel_rfl) ?_ | refine so_index1n tabOk lx rfl rfl rfl rfl (by omega) (by kernel_rfl) ?_ | refine so_indexn tabOk lx rfl rfl rfl rfl (by omega) (by kernel_rfl) ?_ | refine so_index1 tabOk lx rfl rfl rfl rfl (by omega) (by omega) (by kernel_rfl) ?_ | refine so_pass lx rfl rfl rfl (by kernel_rfl) ?_ | refine so_arith tabOk lx rfl rfl rfl rfl (by simp only [InR]; omega) (by kernel_rfl) ?_)
            refine so_single (by kernel_rfl) (th_store tabOk (by assumption) (by simp [cv, Cn.c1, cl]) [] (by kernel_rfl) rfl rfl rfl rfl rfl rfl (by repeat (first | exact Upd.here | apply Upd.there)) (by rfl) (by repeat (first | exact List.nil_sublist _ | refine List.Sublist.cons_cons _ ?_ | refine List.Sublist.cons _ ?_)) ?_)
            intro W19 H19
            refine so_done ?_
            exact mid_done (ad5, cp5, ad11, cp11, ad17, cp17) (by exact (by repeat (first | exact less_nil | refine less_cons rfl ?_))) (by dsimp only; exact Hp.picks (by assumption) (by repeat (first | exact Picks.nil | (apply Picks.cons; (repeat (first | exact Pick.here | apply Pick.there))))))
        · refine th_lit tabOk (by assumption) [5, 11, 17, 18, 19] (by kernel_rfl) rfl rfl rfl rfl rfl rfl rfl rfl rfl rfl rfl (fun _ => (by repeat (first | exact List.nil_sublist _ | refine List.Sublist.cons_cons _ ?_ | refine List.Sublist.cons _ ?_))) ?_
          intro b12 W12 H12
          refine so_single (by kernel_rfl) (th_append tabOk (by assumption) [11, 17, 18, 19] (by kernel_rfl) rfl rfl rfl rfl rfl rfl rfl rfl rfl (fun _ _ => (by repeat (first | exact Upd.here | apply Upd.there))) (hs1 (by assumption)) (by omega) (fun _ _ => (by repeat (first | exact List.nil_sublist _ | refine List.Sublist.cons_cons _ ?_ | refine List.Sublist.cons _ ?_))) ?_)
          intro ad5 cp5 W5 H5
          simp only [Nat.zero_add, List.nil_append] at H5 ⊢
          refine so_single (by kernel_rfl) (th_append tabOk (by assumption) [17, 18, 19] (by kernel_rfl) rfl rfl rfl rfl rfl rfl rfl rfl rfl (fun _ _ => (by repeat (first | exact Upd.here | apply Upd.there))) (hs2 (by assumption)) (by omega) (fun _ _ => (by repeat (first | exact List.nil_sublist _ | refine List.Sublist.cons_cons _ ?_ | refine List.Sublist.cons _ ?_))) ?_)
          intro ad11 cp11 W11 H11
          simp only [Nat.zero_add, List.nil_append] at H11 ⊢
          refine so_single (by kernel_rfl) (th_append tabOk (by assumption) [18, 19] (by kernel_rfl) rfl rfl rfl rfl rfl rfl rfl rfl rfl (fun _ _ => (by repeat (first | exact Upd.here | apply Upd.there))) (hs3 (by assumption)) (by omega) (fun _ _ => (by repeat (first | exact List.nil_sublist _ | refine List.Sublist.cons_cons _ ?_ | refine List.Sublist.cons _ ?_))) ?_)
          intro ad17 cp17 W17 H17
          simp only [Nat.zero_add, List.nil_append] at H17 ⊢
          repeat (first | refine so_pure tabOk lx rfl rfl rfl rfl (by kernel_rfl) ?_ | refine so_load' tabOk lx rfl rfl rfl rfl (by repeat (first | exact List.Mem.head _ | apply List.Mem.tail)) (by rfl) (by rfl) (by kernel_rfl) ?_ | refine so_loada' tabOk lx rfl rfl rfl rfl (by repeat (first | exact List.Mem.head _ | apply List.Mem.tail)) (by rfl) (by kernel_rfl) ?_ | refine so_len tabOk lx rfl rfl rfl rfl (by kernel_rfl) ?_ | refine so_build' tabOk lx rfl rfl rfl rfl rfl rfl (by kernel_rfl) ?_ | refine so_index1n tabOk lx rfl rfl rfl rfl (by omega) (by kernel_rfl) ?_ | refine so_indexn tabOk lx rfl rfl rfl rfl (by omega) (by kernel_rfl) ?_ | refine so_index1 tabOk lx rfl rfl rfl rfl (by omega) (by omega) (by kernel_rfl) ?_ | refine so_pass lx rfl rfl rfl (by kernel_rfl) ?_ | refine so_arith tabOk lx rfl rfl rfl rfl (by simp only [InR]; omega) (by kernel_rfl) ?_)
          refine so_single (by kernel_rfl) (th_store tabOk (by assumption) (by simp [cv, Cn.c1, cl]) [] (by kernel_rfl) rfl rfl rfl rfl rfl rfl (by repeat (first | exact Upd.here | apply Upd.there)) (by rfl) (by repeat (first | exact List.nil_sublist _ | refine List.Sublist.cons_cons _ ?_ | refine List.Sublist.cons _ ?_)) ?_)
          intro W19 H19
          refine so_done ?_
          exact mid_done (ad5, cp5, ad11, cp11, ad17, cp17) (by exact (by repeat (first | exact less_nil | refine less_cons rfl ?_))) (by dsimp only; exact Hp.picks (by assumption) (by repeat (first | exact Picks.nil | (apply Picks.cons; (repeat (first | exact Pick.here | apply Pick.there))))))
      · refine th_lit tabOk (by assumption) [0, 5, 11, 17, 18, 19] (by kernel_rfl) rfl rfl rfl rfl rfl rfl rfl rfl rfl rfl rfl (fun _ => (by repeat (first | exact List.nil_sublist _ | refine List.Sublist.cons_cons _ ?_ | refine List.Sublist.cons _ ?_))) ?_
        intro b12 W12 H12
        refine so_single (by kernel_rfl) (th_lit tabOk (by assumption) [5, 11, 17, 18, 19] (by kernel_rfl) rfl rfl rfl rfl rfl rfl rfl rfl rfl rfl rfl (fun _ => (by repeat (first | exact List.nil_sublist _ | refine List.Sublist.cons_cons _ ?_ | refine List.Sublist.cons _ ?_))) ?_)
        intro b0 W0 H0
        refine so_single (by kernel_rfl) (th_append tabOk (by assumption) [11, 17, 18, 19] (by kernel_rfl) rfl rfl rfl rfl rfl rfl rfl rfl rfl (fun _ _ => (by repeat (first | exact Upd.here | apply Upd.there))) (hs1 (by assumption)) (by omega) (fun _ _ => (by repeat (first | exact List.nil_sublist _ | refine List.Sublist.cons_cons _ ?_ | refine List.Sublist.cons _ ?_))) ?_)
        intro ad5 cp5 W5 H5
        simp only [Nat.zero_add, List.nil_append] at H5 ⊢
        refine so_single (by kernel_rfl) (th_append tabOk (by assumption) [17, 18, 19] (by kernel_rfl) rfl rfl rfl rfl rfl rfl rfl rfl rfl (fun _ _ => (by repeat (first | exact Upd.here | apply Upd.there))) (hs2 (by assumption)) (by omega) (fun _ _ => (by repeat (first | exact List.nil_sublist _ | refine List.Sublist.cons_cons _ ?_ | refine List.Sublist.cons _ ?_))) ?_)
        intro ad11 cp11 W11 H11
        simp only [Nat.zero_add, List.nil_append] at H11 ⊢
        refine so_single (by kernel_rfl) (th_append tabOk (by assumption) [18, 19] (by kernel_rfl) rfl rfl rfl rfl rfl rfl rfl rfl rfl (fun _ _ => (by repeat (first | exact Upd.here | apply Upd.there))) (hs3 (by assumption)) (by omega) (fun _ _ => (by repeat (first | exact List.nil_sublist _ | refine List.Sublist.cons_cons _ ?_ | refine List.Sublist.cons _ ?_))) ?_)
        intro ad17 cp17 W17 H17
        simp only [Nat.zero_add, List.nil_append] at H17 ⊢
        repeat (first | refine so_pure tabOk lx rfl rfl rfl rfl (by kernel_rfl) ?_ | refine so_load' tabOk lx rfl rfl rfl rfl (by repeat (first | exact List.Mem.head _ | apply List.Mem.tail)) (by rfl) (by rfl) (by kernel_rfl) ?_ | refine so_loada' tabOk lx rfl rfl rfl rfl (by repeat (first | exact List.Mem.head _ | apply List.Mem.tail)) (by rfl) (by kernel_rfl) ?_ | refine so_len tabOk lx rfl rfl rfl rfl (by kernel_rfl) ?_ | refine so_build' tabOk lx rfl rfl rfl rfl rfl rfl (by kernel_rfl) ?_ | refine so_index1n tabOk lx rfl rfl rfl rfl (by omega) (by kernel_rfl) ?_ | refine so_indexn tabOk lx rfl rfl rfl rfl (by omega) (by kernel_rfl) ?_ | refine so_index1 tabOk lx rfl rfl rfl rfl (by omega) (by omega) (by kernel_rfl) ?_ | refine so_pass lx rfl rfl rfl (by kernel_rfl) ?_ | refine so_arith tabOk lx rfl rfl rfl rfl (by simp only [InR]; omega) (by kernel_rfl) ?_)
        refine so_single (by kernel_rfl) (th_store tabOk (by assumption) (by simp [cv, Cn.c1, cl]) [] (by kernel_rfl) rfl rfl rfl rfl rfl rfl (by repeat (first | exact Upd.here | apply Upd.there)) (by rfl) (by repeat (first | exact List.nil_sublist _ | refine List.Sublist.cons_cons _ ?_ | refine List.Sublist.cons _ ?_)) ?_)
        intro W19 H19
        refine so_done ?_
        exact mid_done (ad5, cp5, ad11, cp11, ad17, cp17) (by exact (by repeat (first | exact less_nil | refine less_cons rfl ?_))) (by dsimp only; exact Hp.picks (by assumption) (by repeat (first | exact Picks.nil | (apply Picks.cons; (repeat (first | exact Pick.here | apply Pick.there))))))
    · refine th_lit tabOk (by assumption) [0, 6, 5, 11, 17, 18, 19] (by kernel_rfl) rfl rfl rfl rfl rfl rfl rfl rfl rfl rfl rfl (fun _ => (by repeat (first | exact List.nil_sublist _ | refine List.Sublist.cons_cons _ ?_ | refine List.Sublist.cons _ ?_))) ?_
      intro b12 W12 H12
      refine so_all [0, 6] (by kernel_rfl) (x_one ?_ (x_one ?_ x_none))
      · refine th_lit tabOk (by assumption) [5, 6, 11, 17, 18, 19] (by kernel_rfl) rfl rfl rfl rfl rfl rfl rfl rfl rfl rfl rfl (fun _ => (by repeat (first | exact List.nil_sublist _ | refine List.Sublist.cons_cons _ ?_ | refine List.Sublist.cons _ ?_))) ?_
        intro b0 W0 H0
        refine so_all [5, 6] (by kernel_rfl) (x_one ?_ (x_one ?_ x_none))
        · refine th_append tabOk (by assumption) [6, 11, 17, 18, 19] (by kernel_rfl) rfl rfl rfl rfl rfl rfl rfl rfl rfl (fun _ _ => (by repeat (first | exact Upd.here | apply Upd.there))) (hs1 (by assumption)) (by omega) (fun _ _ => (by repeat (first | exact List.nil_sublist _ | refine List.Sublist.cons_cons _ ?_ | refine List.Sublist.cons _ ?_))) ?_
          intro ad5 cp5 W5 H5
          simp only [Nat.zero_add, List.nil_append] at H5 ⊢
          refine so_single (by kernel_rfl) (th_lit tabOk (by assumption) [11, 17, 18, 19] (by kernel_rfl) rfl rfl rfl rfl rfl rfl rfl rfl rfl rfl rfl (fun _ => (by repeat (first | exact List.nil_sublist _ | refine List.Sublist.cons_cons _ ?_ | refine List.Sublist.cons _ ?_))) ?_)
          intro b6 W6 H6
          refine so_single (by kernel_rfl) (th_append tabOk (by assumption) [17, 18, 19] (by kernel_rfl) rfl rfl rfl rfl rfl rfl rfl rfl rfl (fun _ _ => (by repeat (first | exact Upd.here | apply Upd.there))) (hs2 (by assumption)) (by omega) (fun _ _ => (by repeat (first | exact List.nil_sublist _ | refine List.Sublist.cons_cons _ ?_ | refine List.Sublist.cons _ ?_))) ?_)
          intro ad11 cp11 W11 H11
          simp only [Nat.zero_add, List.nil_append] at H11 ⊢
          refine so_single (by kernel_rfl) (th_append tabOk (by assumption) [18, 19] (by kernel_rfl) rfl rfl rfl rfl rfl rfl rfl rfl rfl (fun _ _ => (by repeat (first | exact Upd.here | apply Upd.there))) (hs3 (by assumption)) (by omega) (fun _ _ => (by repeat (first | exact List.nil_sublist _ | refine List.Sublist.cons_cons _ ?_ | refine List.Sublist.cons _ ?_))) ?_)
          intro ad17 cp17 W17 H17
          simp only [Nat.zero_add, List.nil_append] at H17 ⊢
          repeat (first | refine so_pure tabOk lx rfl rfl rfl rfl (by kernel_rfl) ?_ | refine so_load' tabOk lx rfl rfl rfl rfl (by repeat (first | exact List.Mem.head _ | apply List.Mem.tail)) (by rfl) (by rfl) (by kernel_rfl) ?_ | refine so_loada' tabOk lx rfl rfl rfl rfl (by repeat (first | exact List.Mem.head _ | apply List.Mem.tail)) (by rfl) (by kernel_rfl) ?_ | refine so_len tabOk lx rfl rfl rfl rfl (by kernel_rfl) ?_ | refine so_build' tabOk lx rfl rfl rfl rfl rfl rfl (by kernel_rfl) ?_ | refine so_index1n tabOk lx rfl rfl rfl rfl (by omega) (by kernel_rfl) ?_ | refine so_indexn tabOk lx rfl rfl rfl rfl (by omega) (by kernel_rfl) ?_ | refine so_index1 tabOk lx rfl rfl rfl rfl (by omega) (by omega) (by kernel_rfl) ?_ | refine so_pass lx rfl rfl rfl (by kernel_rfl) ?_ | refine so_arith tabOk lx rfl rfl rfl rfl (by simp only [InR]; omega) (by kernel_rfl) ?_)
          refine so_single (by kernel_rfl) (th_store tabOk (by assumption) (by simp [cv, Cn.c1, cl]) [] (by kernel_rfl) rfl rfl rfl rfl rfl rfl (by repeat (first | exact Upd.here | apply Upd.there)) (by rfl) (by repeat (first | exact List.nil_sublist _ | refine List.Sublist.cons_cons _ ?_ | refine List.Sublist.cons _ ?_)) ?_)
          intro W19 H19
          refine so_done ?_
          exact mid_done (ad5, cp5, ad11, cp11, ad17, cp17) (by exact (by repeat (first | exact less_nil | refine less_cons rfl ?_))) (by dsimp only; exact Hp.picks (by assumption) (by repeat (first | exact Picks.nil | (apply Picks.cons; (repeat (first | exact Pick.here | apply Pick.there))))))
        · refine th_lit tabOk (by assumption) [5, 11, 17, 18, 19] (by kernel_rfl) rfl rfl rfl rfl rfl rfl rfl rfl rfl rfl rfl (fun _ => (by repeat (first | exact List.nil_sublist _ | refine List.Sublist.cons_cons _ ?_ | refine List.Sublist.cons _ ?_))) ?_
          intro b6 W6 H6
          refine so_single (by kernel_rfl) (th_append tabOk (by assumption) [11, 17, 18, 19] (by kernel_rfl) rfl rfl rfl rfl rfl rfl rfl rfl rfl (fun _ _ => (by repeat (first | exact Upd.here | apply Upd.there))) (hs1 (by assumption)) (by omega) (fun _ _ => (by repeat (first | exact List.nil_sublist _ | refine List.Sublist.cons_cons _ ?_ | refine List.Sublist.cons _ ?_))) ?_)
          intro ad5 cp5 W5 H5
          simp only [Nat.zero_add, List.nil_append] at H5 ⊢
          refine so_single (by kernel_rfl) (th_append tabOk (by assumption) [17, 18, 19] (by kernel_rfl) rfl rfl rfl rfl rfl rfl rfl rfl rfl (fun _ _ => (by repeat (first | exact Upd.here | apply Upd.there))) (hs2 (by assumption)) (by omega) (fun _ _ => (by repeat (first | exact List.nil_sublist _ | refine List.Sublist.cons_cons _ ?_ | refine List.Sublist.cons _ ?_))) ?_)
          intro ad11 cp11 W11 H11
          simp only [Nat.zero_add, List.nil_append] at H11 ⊢
          refine so_single (by kernel_rfl) (th_append tabOk (by assumption) [18, 19] (by kernel_rfl) rfl rfl rfl rfl rfl rfl rfl rfl rfl (fun _ _ => (by repeat (first | exact Upd.here | apply Upd.there))) (hs3 (by assumption)) (by omega) (fun _ _ => (by repeat (first | exact List.nil_sublist _ | refine List.Sublist.cons_cons _ ?_ | refine List.Sublist.cons _ ?_))) ?_)
          intro ad17 cp17 W17 H17
          simp only [Nat.zero_add, List.nil_append] at H17 ⊢
          repeat (first | refine so_pure tabOk lx rfl rfl rfl rfl (by kernel_rfl) ?_ | refine so_load' tabOk lx rfl rfl rfl rfl (by repeat (first | exact List.Mem.head _ | apply List.Mem.tail)) (by rfl) (by rfl) (by kernel_rfl) ?_ | refine so_loada' tabOk lx rfl rfl rfl rfl (by repeat (first | exact List.Mem.head _ | apply List.Mem.tail)) (by rfl) (by kernel_rfl) ?_ | refine so_len tabOk lx rfl rfl rfl rfl (by kernel_rfl) ?_ | refine so_build' tabOk lx rfl rfl rfl rfl rfl rfl (by kernel_rfl) ?_ | refine so_index1n tabOk lx rfl rfl rfl rfl (by omega) (by kernel_rfl) ?_ | refine so_indexn tabOk lx rfl rfl rfl rfl (by omega) (by kernel_rfl) ?_ | refine so_index1 tabOk lx rfl rfl rfl rfl (by omega) (by omega) (by kernel_rfl) ?_ | refine so_pass lx rfl rfl rfl (by kernel_rfl) ?_ | refine so_arith tabOk lx rfl rfl rfl rfl (by simp only [InR]; omega) (by kernel_rfl) ?_)
          refine so_single (by kernel_rfl) (th_store tabOk (by assumption) (by simp [cv, Cn.c1, cl]) [] (by kernel_rfl) rfl rfl rfl rfl rfl rfl (by repeat (first | exact Upd.here | apply Upd.there)) (by rfl) (by repeat (first | exact List.nil_sublist _ | refine List.Sublist.cons_cons _ ?_ | refine List.Sublist.cons _ ?_)) ?_)
          intro W19 H19
          refine so_done ?_
          exact mid_done (ad5, cp5, ad11, cp11, ad17, cp17) (by exact (by repeat (first | exact less_nil | refine less_cons rfl ?_))) (by dsimp only; exact Hp.picks (by assumption) (by repeat (first | exact Picks.nil | (apply Picks.cons; (repeat (first | exact Pick.here | apply Pick.there))))))
      · refine th_lit tabOk (by assumption) [0, 5, 11, 17, 18, 19] (by kernel_rfl) rfl rfl rfl rfl rfl rfl rfl rfl rfl rfl rfl (fun _ => (by repeat (first | exact List.nil_sublist _ | refine List.Sublist.cons_cons _ ?_ | refine List.Sublist.cons _ ?_))) ?_
        intro b6 W6 H6
        refine so_single (by kernel_rfl) (th_lit tabOk (by assumption) [5, 11, 17, 18, 19] (by kernel_rfl) rfl rfl rfl rfl rfl rfl rfl rfl rfl rfl rfl (fun _ => (by repeat (first | exact List.nil_sublist _ | refine List.Sublist.cons_cons _ ?_ | refine List.Sublist.cons _ ?_))) ?_)
        intro b0 W0 H0
        refine so_single (by kernel_rfl) (th_append tabOk (by assumption) [11, 17, 18, 19] (by kernel_rfl) rfl rfl rfl rfl rfl rfl rfl rfl rfl (fun _ _ => (by repeat (first | exact Upd.here | apply Upd.there))) (hs1 (by assumption)) (by omega) (fun _ _ => (by repeat (first | exact List.nil_sublist _ | refine List.Sublist.cons_cons _ ?_ | refine List.Sublist.cons _ ?_))) ?_)
        intro ad5 cp5 W5 H5
        simp only [Nat.zero_add, List.nil_append] at H5 ⊢
        refine so_single (by kernel_rfl) (th_append tabOk (by assumption) [17, 18, 19] (by kernel_rfl) rfl rfl rfl rfl rfl rfl rfl rfl rfl (fun _ _ => (by repeat (first | exact Upd.here | apply Upd.there))) (hs2 (by assumption)) (by omega) (fun _ _ => (by repeat (first | exact List.nil_sublist _ | refine List.Sublist.cons_cons _ ?_ | refine List.Sublist.cons _ ?_))) ?_)
        intro ad11 cp11 W11 H11
        simp only [Nat.zero_add, List.nil_append] at H11 ⊢
        refine so_single (by kernel_rfl) (th_append tabOk (by assumption) [18, 19] (by kernel_rfl) rfl rfl rfl rfl rfl rfl rfl rfl rfl (fun _ _ => (by repeat (first | exact Upd.here | apply Upd.there))) (hs3 (by assumption)) (by omega) (fun _ _ => (by repeat (first | exact List.nil_sublist _ | refine List.Sublist.cons_cons _ ?_ | refine List.Sublist.cons _ ?_))) ?_)
        intro ad17 cp17 W17 H17
        simp only [Nat.zero_add, List.nil_append] at H17 ⊢
        repeat (first | refine so_pure tabOk lx rfl rfl rfl rfl (by kernel_rfl) ?_ | refine so_load' tabOk lx rfl rfl rfl rfl (by repeat (first | exact List.Mem.head _ | apply List.Mem.tail)) (by rfl) (by rfl) (by kernel_rfl) ?_ | refine so_loada' tabOk lx rfl rfl rfl rfl (by repeat (first | exact List.Mem.head _ | apply List.Mem.tail)) (by rfl) (by kernel_rfl) ?_ | refine so_len tabOk lx rfl rfl rfl rfl (by kernel_rfl) ?_ | refine so_build' tabOk lx rfl rfl rfl rfl rfl rfl (by kernel_rfl) ?_ | refine so_index1n tabOk lx rfl rfl rfl rfl (by omega) (by kernel_rfl) ?_ | refine so_indexn tabOk lx rfl rfl rfl rfl (by omega) (by kernel_rfl) ?_ | refine so_index1 tabOk lx rfl rfl rfl rfl (by omega) (by omega) (by kernel_rfl) ?_ | refine so_pass lx rfl rfl rfl (by kernel_rfl) ?_ | refine so_arith tabOk lx rfl rfl rfl rfl (by simp only [InR]; omega) (by kernel_rfl) ?_)
        refine so_single (by kernel_rfl) (th_store tabOk (by assumption) (by simp [cv, Cn.c1, cl]) [] (by kernel_rfl) rfl rfl rfl rfl rfl rfl (by repeat (first | exact Upd.here | apply Upd.there)) (by rfl) (by repeat (first | exact List.nil_sublist _ | refine List.Sublist.cons_cons _ ?_ | refine List.Sublist.cons _ ?_)) ?_)
        intro W19 H19
        refine so_done ?_
        exact mid_done (ad5, cp5, ad11, cp11, ad17, cp17) (by exact (by repeat (first | exact less_nil | refine less_cons rfl ?_))) (by dsimp only; exact Hp.picks (by assumption) (by repeat (first | exact Picks.nil | (apply Picks.cons; (repeat (first | exact Pick.here | apply Pick.there))))))
  rintro ⟨a1, c1, a2, c2, a3, c3⟩ W20 H20
  dsimp only at H20 ⊢
  repeat' (first | refine s_pure tabOk rfl rfl rfl rfl ?_ | refine Stp.imp ?_ | refine aops_nil ?_ | refine aw_reg ?_ | refine aw_seq ?_ | refine s_pass rfl rfl rfl ?_ | refine s_len tabOk rfl rfl rfl rfl ?_ | refine aw_true rfl ?_ | refine aw_false rfl ?_ | refine blk_exit_other rfl ?_ | refine s_arith tabOk rfl rfl rfl rfl (by simp only [InR]; omega) ?_ | ((first | ((fail_if_success refine s_told rfl rfl ?_); refine s_part rfl rfl rfl ?_ ?_) | refine aw_if rfl ?_ ?_) <;> intro hc <;> (first | replace hc := DecT.imp hc | simp only [decs] at hc | skip)) | refine s_index1n tabOk rfl rfl rfl rfl (by omega) ?_ | refine s_indexn tabOk rfl rfl rfl rfl (by omega) ?_ | refine s_index1 tabOk rfl rfl rfl rfl (by omega) (by omega) ?_ | refine sh_load tabOk (by assumption) rfl rfl rfl rfl (by repeat (first | exact List.Mem.head _ | apply List.Mem.tail)) (by rfl) (by rfl) ?_ | refine sh_loada tabOk (by assumption) rfl rfl rfl rfl (by repeat (first | exact List.Mem.head _ | apply List.Mem.tail)) (by rfl) ?_ | (refine sh_box (by assumption) rfl rfl rfl rfl rfl rfl ?_; intro _ _ _) | (refine sh_alloc tabOk (by assumption) rfl rfl rfl rfl rfl rfl ?_; intro _ _ _) | (refine sh_store tabOk (by assumption) rfl rfl rfl rfl rfl rfl (by repeat (first | exact Upd.here | apply Upd.there)) (by rfl) ?_; intro _ _) | (refine sh_lit tabOk (by assumption) rfl rfl rfl rfl rfl rfl rfl rfl rfl rfl rfl ?_; intro _ _ _) | refine sh_build tabOk rfl rfl rfl rfl rfl rfl ?_)
  refine retK_ret tabOk (congrArg Array.toList Try.results60) (by repeat (first | exact rv_nil | apply rv_tmp rfl rfl | apply rv_cellH (by assumption) rfl rfl rfl (by repeat (first | exact List.Mem.head _ | apply List.Mem.tail)) rfl)) ?_
  exact ⟨_, _, _, _, _, _, rfl, Hp.picks (by assumption) (by repeat (first | exact Picks.nil | (apply Picks.cons; (repeat (first | exact Pick.here | apply Pick.there)))))⟩
end
end Go.Proofs.Ytgkmonllkfgbdaa
