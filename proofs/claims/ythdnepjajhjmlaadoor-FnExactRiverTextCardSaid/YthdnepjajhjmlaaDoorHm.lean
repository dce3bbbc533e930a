/- Parts of a heap told together: lists of lists. -/
import Derived.Test.YthdnepjajhjmlaaDoorHr
namespace Go.Proofs.YthdnepjajhjmlaaDoor.Cn
set_option linter.unusedSimpArgs false
set_option linter.unusedVariables false
open Go Go.RowKit
def Res.many (rs : List Res) : Res := .deep (fun b => ∃ r ∈ rs, r.foot b) (fun W => (∀ r ∈ rs, r.ok W) ∧ rs.Pairwise Res.apart)
theorem many_local (rs : List Res) : Local (fun b => ∃ r ∈ rs, r.foot b) (fun W => (∀ r ∈ rs, r.ok W) ∧ rs.Pairwise Res.apart) :=
  fun _ _ ha h => ⟨fun r hr => Res.loc (h.1 r hr) fun b hb => ha b ⟨r, hr, hb⟩, h.2⟩
section
variable {B : Nat} {A W W' : World} {l l' L L' rs rs' : List Res} {r r' : Res}
theorem many_ok (h : (Res.many rs).ok W) : (∀ r ∈ rs, r.ok W) ∧ rs.Pairwise Res.apart := h.1
theorem Hp.pack (h : Hp B A W (rs ++ l)) : Hp B A W (.many rs :: l) := by
  have hp := List.pairwise_append.1 h.sep
  refine ⟨h.hB, h.below, fun r hr => ?_, fun r hr b hb => ?_, ?_⟩
  · rcases List.mem_cons.1 hr with rfl | hr
    · exact ⟨⟨fun r hr => h.ok r (List.mem_append_left _ hr), hp.1⟩, many_local rs⟩
    · exact h.ok r (List.mem_append_right _ hr)
  · rcases List.mem_cons.1 hr with rfl | hr
    · obtain ⟨r, hr, hb⟩ := hb
      exact h.own r (List.mem_append_left _ hr) b hb
    · exact h.own r (List.mem_append_right _ hr) b hb
  · refine List.pairwise_cons.2 ⟨fun s hs b h1 h2 => ?_, hp.2.1⟩
    obtain ⟨r, hr, hb⟩ := h1
    exact hp.2.2 r hr s hs b hb h2
theorem Hp.unpack (h : Hp B A W (.many rs :: l)) : Hp B A W (rs ++ l) := by
  obtain ⟨h1, h2⟩ := many_ok (h.ok _ (List.Mem.head _))
  have hp := List.pairwise_cons.1 h.sep
  refine ⟨h.hB, h.below, fun r hr => ?_, fun r hr b hb => ?_, ?_⟩
  · rcases List.mem_append.1 hr with hr | hr
    · exact h1 r hr
    · exact h.ok r (List.mem_cons_of_mem _ hr)
  · rcases List.mem_append.1 hr with hr | hr
    · exact h.own _ (List.Mem.head _) b ⟨r, hr, hb⟩
    · exact h.own r (List.mem_cons_of_mem _ hr) b hb
  · exact List.pairwise_append.2 ⟨h2, hp.2, fun r hr s hs b h3 h4 => hp.1 s hs b ⟨r, hr, h3⟩ h4⟩
theorem Hp.mid {a b : List Res} (h : Hp B A W (a ++ r :: b)) : Hp B A W (r :: (a ++ b)) := h.perm List.perm_middle
theorem Hp.unmid {a b : List Res} (h : Hp B A W (r :: (a ++ b))) : Hp B A W (a ++ r :: b) := h.perm List.perm_middle.symm
/-- what is told together, opened and shut again -/
theorem Hp.opens (h : Hp B A W L) (hU : Upd L (.many rs) (.many rs') L') : ∃ M, Hp B A W (rs ++ M) ∧ ∀ W', Hp B A W' (rs' ++ M) → Hp B A W' L' := by
  obtain ⟨a, b, rfl, rfl⟩ := hU.split
  exact ⟨a ++ b, h.mid.unpack, fun W' h' => h'.pack.unmid⟩
theorem Hp.inMany (h : Hp B A W L) (hm : .many rs ∈ L) (hr : r ∈ rs) : r.ok W := (many_ok (h.ok _ hm)).1 r hr
/-- a row joins what is told together -/
theorem Hp.joins (h : Hp B A W (.many rs :: rs' ++ l)) : Hp B A W (.many (rs ++ rs') :: l) := by
  refine Hp.pack ?_
  have := Hp.unpack (l := rs' ++ l) h
  rwa [← List.append_assoc] at this
end
/-! ### lists of lists of whole numbers, read -/
abbrev Sv : Type := Option Addr × Nat × Nat
abbrev slV (s : Sv) : Value := .slice s.1 s.2.1 s.2.2
def sv0 : Sv := (none, 0, 0)
def SlII (W : World) (v : Value) (xss : List (List Int)) : Prop := ∃ us : List Sv, us.length = xss.length ∧ SlV W 1 v xss.length (us.map slV) ∧ ∀ j, j < xss.length → SlI W (slV (us.getD j sv0)) (xss.getD j [])
theorem sv_len {W : World} {u : Sv} {xs : List Int} (h : SlI W (slV u) xs) : u = (u.1, xs.length, u.2.2) := by
  obtain ⟨a, c, h, -⟩ := h.form
  obtain ⟨p, n, m⟩ := u
  simp only [slV, Value.slice.injEq] at h
  rw [h.2.1]
section
variable {B : Nat} {A W W' : World} {l l' L L' : List Res}
theorem SlII.below {v : Value} {xss : List (List Int)} (h : SlII A v xss) (hb : Below A.heap.size A W) : SlII W v xss := by
  obtain ⟨us, h1, h2, h3⟩ := h
  exact ⟨us, h1, h2.below hb, fun j hj => (h3 j hj).below hb⟩
theorem SlII.form {v : Value} {xss : List (List Int)} (h : SlII W v xss) : ∃ a c, v = .slice a xss.length c ∧ xss.length ≤ c := by
  obtain ⟨us, h1, h2, h3⟩ := h
  exact h2.form
theorem Hp.sliiA (H : Hp B A W l) {v : Value} {xss : List (List Int)} (h : SlII A v xss) : SlII W v xss := h.below H.below
theorem SlII.read {a : Option Addr} {c : Nat} {xss : List (List Int)} (h : SlII W (.slice a xss.length c) xss) (hn : 0 < xss.length) : ∃ b off, a = some ⟨b, off, none⟩ ∧ ∃ us : List Sv, us.length = xss.length ∧ RdV W b off (us.map slV) ∧ ∀ j, j < xss.length → SlI W (slV (us.getD j sv0)) (xss.getD j []) := by
  obtain ⟨us, h1, h2, h3⟩ := h
  obtain ⟨b, off, h4, h5⟩ := h2.read hn
  exact ⟨b, off, h4, us, h1, h5, h3⟩
/-- the parts of a list of lists that is owned: E the element's type, I the type of the inner elements -/
def inR (I : TypeId) (us : List Sv) (xss : List (List Int)) : List Res := List.zipWith (fun u xs => Res.row I 1 (slV u) xs.length (iC xs)) us xss
def ssR (E I : TypeId) (v : Value) (us : List Sv) (xss : List (List Int)) : List Res := .row E 1 v xss.length (us.map slV) :: inR I us xss
theorem inR_push {I : TypeId} {us : List Sv} {xss : List (List Int)} (u : Sv) (xs : List Int) (h : us.length = xss.length) : inR I (us ++ [u]) (xss ++ [xs]) = inR I us xss ++ [.row I 1 (slV u) xs.length (iC xs)] := by
  unfold inR; rw [List.zipWith_append h]; rfl
theorem inR_mem {I : TypeId} : ∀ {us : List Sv} {xss : List (List Int)}, us.length = xss.length → ∀ j, j < xss.length → Res.row I 1 (slV (us.getD j sv0)) (xss.getD j []).length (iC (xss.getD j [])) ∈ inR I us xss
  | [], [], _, j, hj => by cases hj
  | u :: us, xs :: xss, h, 0, _ => List.Mem.head _
  | u :: us, xs :: xss, h, j + 1, hj => List.Mem.tail _ (inR_mem (by simpa using h) j (by simpa using hj))
theorem row_sli {e : TypeId} {v : Value} {xs : List Int} {n : Nat} (h : (Res.row e 1 v n (iC xs)).ok W) : SlI W v xs := by
  have h2 := SlV.of_row h
  have hn : n = xs.length := by have := h2.1; simp at this; omega
  subst hn; exact h2
theorem ssR_len {E I : TypeId} {v : Value} {us : List Sv} {xss : List (List Int)} (h : ∀ r ∈ ssR E I v us xss, r.ok W) : us.length = xss.length := by
  have := (h _ (List.Mem.head _)).1.1
  simp at this; omega
theorem Hp.slii (H : Hp B A W L) {E I : TypeId} {v : Value} {us : List Sv} {xss : List (List Int)} (hm : Res.many (ssR E I v us xss) ∈ L) : SlII W v xss := by
  have hl := ssR_len (many_ok (H.ok _ hm)).1
  exact ⟨us, hl, SlV.of_row (H.inMany hm (List.Mem.head _)), fun j hj => row_sli (H.inMany hm (List.Mem.tail _ (inR_mem hl j hj)))⟩
theorem Hp.ss_len (H : Hp B A W L) {E I : TypeId} {v : Value} {us : List Sv} {xss : List (List Int)} (hm : Res.many (ssR E I v us xss) ∈ L) : us.length = xss.length := ssR_len (many_ok (H.ok _ hm)).1
theorem Hp.ssIn (H : Hp B A W L) {E I : TypeId} {v : Value} {us : List Sv} {xss : List (List Int)} (hm : Res.many (ssR E I v us xss) ∈ L) {j : Nat} (hj : j < xss.length) : SlI W (slV (us.getD j sv0)) (xss.getD j []) :=
  row_sli (H.inMany hm (List.Mem.tail _ (inR_mem (H.ss_len hm) j hj)))
theorem Hp.ssSl (H : Hp B A W L) {E I : TypeId} {v : Value} {us : List Sv} {xss : List (List Int)} (hm : Res.many (ssR E I v us xss) ∈ L) : SlV W 1 v xss.length (us.map slV) := SlV.of_row (H.inMany hm (List.Mem.head _))
theorem Hp.ssForm (H : Hp B A W L) {E I : TypeId} {v : Value} {us : List Sv} {xss : List (List Int)} (hm : Res.many (ssR E I v us xss) ∈ L) : (∃ b c, v = .slice (some ⟨b, 0, none⟩) xss.length c) ∨ (v = .slice none 0 0 ∧ xss.length = 0) := by
  rcases (H.inMany hm (List.Mem.head _)).1.2 with ⟨h1, h2⟩ | ⟨g, cap, cur, h1, -⟩
  · exact .inr ⟨h1, h2⟩
  · exact .inl ⟨g, cap, h1⟩
theorem Hp.ssRd (H : Hp B A W L) {E I : TypeId} {b n c : Nat} {us : List Sv} {xss : List (List Int)} (hm : Res.many (ssR E I (.slice (some ⟨b, 0, none⟩) n c) us xss) ∈ L) (hn : 0 < xss.length) : RdV W b 0 (us.map slV) := by
  have h1 := H.ssSl hm
  have h2 := h1.form
  obtain ⟨a, c', h3, -⟩ := h2
  cases h3
  obtain ⟨b', off, h4, h5⟩ := h1.read hn
  cases h4
  exact h5
theorem Hp.ssPtr (H : Hp B A W L) {E I : TypeId} {a : Option Addr} {n c : Nat} {us : List Sv} {xss : List (List Int)} (hm : Res.many (ssR E I (.slice a n c) us xss) ∈ L) (hn : 0 < xss.length) : ∃ b, a = some ⟨b, 0, none⟩ := by
  rcases H.ssForm hm with ⟨b, c', h⟩ | ⟨h1, h2⟩
  · cases h; exact ⟨b, rfl⟩
  · omega
/-- an inner list turned -/
theorem ssR_upd {E I : TypeId} {v : Value} : ∀ {us : List Sv} {xss : List (List Int)} {M : List Res}, us.length = xss.length → ∀ j, j < xss.length → ∀ ys : List Int, ys.length = (xss.getD j []).length →
    Upd (ssR E I v us xss ++ M) (.row I 1 (slV (us.getD j sv0)) (xss.getD j []).length (iC (xss.getD j []))) (.row I 1 (slV (us.getD j sv0)) (xss.getD j []).length (iC ys)) (ssR E I v us (xss.set j ys) ++ M) := by
  intro us xss M hl j hj ys hy
  unfold ssR
  rw [List.length_set]
  refine Upd.there ?_
  unfold inR
  induction xss generalizing us j with
  | nil => cases hj
  | cons xs xss ih =>
    match us, hl with
    | u :: us, hl =>
      cases j with
      | zero =>
        simp only [List.getD_cons_zero, List.set_cons_zero, List.zipWith_cons_cons, List.cons_append] at hy ⊢
        rw [hy]
        exact Upd.here
      | succ j =>
        simp only [List.getD_cons_succ, List.set_cons_succ, List.zipWith_cons_cons, List.cons_append] at hy ⊢
        exact Upd.there (ih (by simpa using hl) j (by simpa using hj) hy)
/-- the outer row and the inner ones told together -/
theorem Hp.packS {E I : TypeId} {v : Value} {us : List Sv} {xss : List (List Int)} (h : Hp B A W (.row E 1 v xss.length (us.map slV) :: .many (inR I us xss) :: L)) : Hp B A W (.many (ssR E I v us xss) :: L) := by
  refine Hp.pack ?_
  have h2 := Hp.unpack (h.perm (List.Perm.swap _ _ _))
  exact h2.perm List.perm_middle
/-- a new inner row joins -/
theorem Hp.pushS {I : TypeId} {us : List Sv} {xss : List (List Int)} {u : Sv} {xs : List Int} (hl : us.length = xss.length) (h : Hp B A W (.many (inR I us xss) :: .row I 1 (slV u) xs.length (iC xs) :: L)) : Hp B A W (.many (inR I (us ++ [u]) (xss ++ [xs])) :: L) := by
  rw [inR_push u xs hl]
  exact Hp.joins h
theorem Hp.nilS {I : TypeId} (h : Hp B A W L) : Hp B A W (.many (inR I [] []) :: L) := Hp.pack h
end
/-! ### pushes in a drawn order -/
section
variable {P : Program} {N B : Nat} {E : Env} {A W : World} {ops : Array Oper} {K : Exit → Env → World → Prop} {T : Tab} {l l0 : List Res}
variable {i : Nat} {q : List Nat} {d : Nat} {op : Op} {ty : TypeId} {pos : String} {aft : Array Edge} {g : Option (Nat × Bool)}
theorem th_push (hT : TabOk P T) {α : Type} {f : α → Value} {y : α} {ys : List α} {e e' : TypeId} {tt : TT} {v u : Value} {n : Nat} {l' : Option Addr → Nat → List Res} (H : Hp B A W l) (q' : List Nat) (ht : takenO ops.size i q q' = true) (ho : getL ops.toList i = some ⟨some d, op, ty, pos, aft, g⟩) (hg : guardE ops ⟨some d, op, ty, pos, aft, g⟩ E = some true) (hd : Nat.ble (d + 1) N = true)
    (hv : evAp T E ⟨some d, op, ty, pos, aft, g⟩ = some (e, v, u)) (hte : T.at e = some tt) (hsz : 1 = tt.size) (hz : Nat.beq tt.zero.cells.size tt.size = true) (hb : Nat.ble tt.bytes 64 = true)
    (hU : ∀ a c, Upd l (.row e 1 v n (ys.map f)) (.row e 1 (.slice a (n + 1) c) (n + 1) ((ys ++ [y]).map f)) (l' a c)) (hm : Res.row e' 1 u 1 [f y] ∈ l) (hnm : n ≤ 1099511627775)
    (hs : ∀ a c, l0.Sublist (l' a c)) (k : ∀ a c W', Hp B A W' (l' a c) → SO P N B ops (DH B A l0) K q' ((d, .slice a (n + 1) c) :: E) W') : TurnO P N B ops (DH B A l0) K q E W i :=
  th_append hT (xs := ys.map f) (ys := [f y]) H q' ht ho hg hd hv hte hsz hz (by rw [← hsz]; rfl) hb (fun a c => by have := hU a c; rwa [List.map_append] at this) (H.row_sl hm) (by omega) hs k
end
end Go.Proofs.YthdnepjajhjmlaaDoor.Cn
