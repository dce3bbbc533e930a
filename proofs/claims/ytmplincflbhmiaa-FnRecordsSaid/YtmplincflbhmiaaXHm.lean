/- Parts of a heap told together: lists of lists. -/
import Derived.Test.YtmplincflbhmiaaHr
namespace Go.Proofs.Ytmplincflbhmiaa.Cn
set_option linter.unusedSimpArgs false
set_option linter.unusedVariables false
open Go Go.RowKit
def Res.many (rs : List Res) : Res := .deep (fun b => ∃ r ∈ rs, r.foot b) (fun W => (∀ r ∈ rs, r.ok W) ∧ rs.Pairwise Res.apart)
theorem many_local (rs : List Res) : Local (fun b => ∃ r ∈ rs, r.foot b) (fun W => (∀ r ∈ rs, r.ok W) ∧ rs.Pairwise Res.apart) :=
  fun _ _ ha h => ⟨fun r hr => Res.loc (h.1 r hr) fun b hb => ha b ⟨r, hr, hb⟩, h.2⟩
section
variable {B : Nat} {A W W' : World} {l l' L L' rs rs' : List Res} {r r' : Res}
theorem many_ok (h : (Res.many rs).ok W) : (∀ r ∈ rs, r.ok W) ∧ rs.Pairwise Res.apart := h.1
theorem Hp.pack (h : Hp B A W (rs ++ l)) : Hp B A W (.many rs :: l) := by
  have hp := List.pairwise_append.1 h.sep
  refine ⟨h.hB, h.below, fun r hr => ?_, fun r hr b hb => ?_, ?_⟩
  · rcases List.mem_cons.1 hr with rfl | hr
    · exact ⟨⟨fun r hr => h.ok r (List.mem_append_left _ hr), hp.1⟩, many_local rs⟩
    · exact h.ok r (List.mem_append_right _ hr)
  · rcases List.mem_cons.1 hr with rfl | hr
    · obtain ⟨r, hr, hb⟩ := hb
      exact h.own r (List.mem_append_left _ hr) b hb
    · exact h.own r (List.mem_append_right _ hr) b hb
  · refine List.pairwise_cons.2 ⟨fun s hs b h1 h2 => ?_, hp.2.1⟩
    obtain ⟨r, hr, hb⟩ := h1
    exact hp.2.2 r hr s hs b hb h2
theorem Hp.unpack (h : Hp B A W (.many rs :: l)) : Hp B A W (rs ++ l) := by
  obtain ⟨h1, h2⟩ := many_ok (h.ok _ (List.Mem.head _))
  have hp := List.pairwise_cons.1 h.sep
  refine ⟨h.hB, h.below, fun r hr => ?_, fun r hr b hb => ?_, ?_⟩
  · rcases List.mem_append.1 hr with hr | hr
    · exact h1 r hr
    · exact h.ok r (List.mem_cons_of_mem _ hr)
  · rcases List.mem_append.1 hr with hr | hr
    · exact h.own _ (List.Mem.head _) b ⟨r, hr, hb⟩
    · exact h.own r (List.mem_cons_of_mem _ hr) b hb
  · exact List.pairwise_append.2 ⟨h2, hp.2, fun r hr s hs b h3 h4 => hp.1 s hs b ⟨r, hr, h3⟩ h4⟩
theorem Hp.mid {a b : List Res} (h : Hp B A W (a ++ r :: b)) : Hp B A W (r :: (a ++ b)) := h.perm List.perm_middle
theorem Hp.inMany (h : Hp B A W L) (hm : .many rs ∈ L) (hr : r ∈ rs) : r.ok W := (many_ok (h.ok _ hm)).1 r hr
/-- a row joins what is told together -/
theorem Hp.joins (h : Hp B A W (.many rs :: rs' ++ l)) : Hp B A W (.many (rs ++ rs') :: l) := by
  refine Hp.pack ?_
  have := Hp.unpack (l := rs' ++ l) h
  rwa [← List.append_assoc] at this
end
/-! ### lists of lists of whole numbers, read -/
abbrev Sv : Type := Option Addr × Nat × Nat
abbrev slV (s : Sv) : Value := .slice s.1 s.2.1 s.2.2
def sv0 : Sv := (none, 0, 0)
def SlII (W : World) (v : Value) (xss : List (List Int)) : Prop := ∃ us : List Sv, us.length = xss.length ∧ SlV W 1 v xss.length (us.map slV) ∧ ∀ j, j < xss.length → SlI W (slV (us.getD j sv0)) (xss.getD j [])
section
variable {B : Nat} {A W W' : World} {l l' L L' : List Res}
theorem SlII.below {v : Value} {xss : List (List Int)} (h : SlII A v xss) (hb : Below A.heap.size A W) : SlII W v xss := by
  obtain ⟨us, h1, h2, h3⟩ := h
  exact ⟨us, h1, h2.below hb, fun j hj => (h3 j hj).below hb⟩
theorem SlII.form {v : Value} {xss : List (List Int)} (h : SlII W v xss) : ∃ a c, v = .slice a xss.length c ∧ xss.length ≤ c := by
  obtain ⟨us, h1, h2, h3⟩ := h
  exact h2.form
theorem SlII.read {a : Option Addr} {c : Nat} {xss : List (List Int)} (h : SlII W (.slice a xss.length c) xss) (hn : 0 < xss.length) : ∃ b off, a = some ⟨b, off, none⟩ ∧ ∃ us : List Sv, us.length = xss.length ∧ RdV W b off (us.map slV) ∧ ∀ j, j < xss.length → SlI W (slV (us.getD j sv0)) (xss.getD j []) := by
  obtain ⟨us, h1, h2, h3⟩ := h
  obtain ⟨b, off, h4, h5⟩ := h2.read hn
  exact ⟨b, off, h4, us, h1, h5, h3⟩
/-- the parts of a list of lists that is owned: E the element's type, I the type of the inner elements -/
def inR (I : TypeId) (us : List Sv) (xss : List (List Int)) : List Res := List.zipWith (fun u xs => Res.row I 1 (slV u) xs.length (iC xs)) us xss
def ssR (E I : TypeId) (v : Value) (us : List Sv) (xss : List (List Int)) : List Res := .row E 1 v xss.length (us.map slV) :: inR I us xss
/-- the outer row and the inner ones told together -/
theorem Hp.packS {E I : TypeId} {v : Value} {us : List Sv} {xss : List (List Int)} (h : Hp B A W (.row E 1 v xss.length (us.map slV) :: .many (inR I us xss) :: L)) : Hp B A W (.many (ssR E I v us xss) :: L) := by
  refine Hp.pack ?_
  have h2 := Hp.unpack (h.perm (List.Perm.swap _ _ _))
  exact h2.perm List.perm_middle
end
/-! ### pushes in a drawn order -/
section
variable {P : Program} {N B : Nat} {E : Env} {A W : World} {ops : Array Oper} {K : Exit → Env → World → Prop} {T : Tab} {l l0 : List Res}
variable {i : Nat} {q : List Nat} {d : Nat} {op : Op} {ty : TypeId} {pos : String} {aft : Array Edge} {g : Option (Nat × Bool)}
end
end Go.Proofs.Ytmplincflbhmiaa.Cn
