/- Used by the claim's last text. -/
import Derived.Test.YtclpjlaielphfaaChgVal
import Derived.Test.YtclpjlaielphfaaChgFlowT
import Derived.Test.YtclpjlaielphfaaChgPFx4
section
namespace Go.Proofs.Ytclpjlaielphfaa.Pure
open Go Go.RowKit Go.Proofs.YtclpjlaielphfaaW.PrintWords Go.Proofs.YtclpjlaielphfaaW.PrintLast Go.Proofs.YtclpjlaielphfaaW.PrintMore Go.Proofs.Ytclpjlaielphfaa.PF Go.Proofs.Ytclpjlaielphfaa.Flow
set_option linter.unusedVariables false
set_option linter.unusedSimpArgs false
theorem rises_len {lo hi : Int} {l : List Int} (h : Rises lo hi l) : l.length = 0 ∨ lo + (l.length : Int) - 1 ≤ hi := by
  have step : ∀ j : Nat, j < l.length → lo + (j : Int) ≤ rd l (j : Int) := by
    intro j
    induction j with
    | zero => intro hj; have := (h.r 0 hj).1; simpa using this
    | succ j ih =>
      intro hj
      have h1 := ih (by omega)
      have h2 := (h.r (j + 1) hj).2.2 (by omega)
      rw [show (((j + 1 : Nat) : Int) - 1) = (j : Int) by omega] at h2
      omega
  by_cases h0 : l.length = 0
  · exact .inl h0
  · right
    have h1 := step (l.length - 1) (by omega)
    have h2 := (h.r (l.length - 1) (by omega)).2.1
    omega
theorem Arcs.row {l : List (List Int)} (h : Arcs l) {i : Nat} (hi : i < l.length) : (rd_L1 l (i : Int)).length ≤ 120 ∧ ∀ k, k ∈ rd_L1 l (i : Int) → 0 ≤ k ∧ k < (i : Int) := by
  have hr := h.r i hi
  have h2 := h.n2
  refine ⟨?_, fun k hk => ?_⟩
  · rcases rises_len hr with h1 | h1 <;> omega
  · obtain ⟨j, hj, e⟩ := mem_rd hk
    have := hr.r j.toNat (by have := hj.1; have := hj.2; omega)
    rw [RisesAt, Int.toNat_of_nonneg hj.1, e] at this
    omega
def ed (i k : Int) : S170 := ⟨i + 1, k + 1, 1000000000⟩
def edV (n : Nat) (i v : Int) : List S170 := if v > 0 then [⟨0, i + 1, v⟩] else if v < 0 then [⟨i + 1, (n : Int) + 1, -v⟩] else []
def pe (n : Nat) : Int → List (List Int) → List Int → List S170
  | i, r :: rs, v :: vs => edV n i v ++ r.map (ed i) ++ pe n (i + 1) rs vs
  | _, _, _ => []
theorem edV_len (n : Nat) (i v : Int) : (edV n i v).length ≤ 1 := by
  unfold edV
  split
  · simp
  · split <;> simp
theorem map_ext_drop {α β : Type} (l : List α) (f : α → β) (j : Nat) (hj : j < l.length) (x : α) (hx : l[j]? = some x) : (l.drop j).map f = f x :: (l.drop (j + 1)).map f := by
  obtain ⟨h1, h2⟩ := List.getElem?_eq_some_iff.1 hx
  rw [List.drop_eq_getElem_cons h1, List.map_cons, h2]
theorem rd_get (l : List Int) (j : Int) (h0 : 0 ≤ j) (h1 : j < (l.length : Int)) : l[j.toNat]? = some (rd l j) := by
  rw [rd, List.getD_eq_getElem?_getD, List.getElem?_eq_getElem (by omega), Option.getD_some]
section
variable {l : List (List Int)} {v : List Int} (hA : Arcs l) (hv : v.length = l.length) (hb : ∀ j : Nat, j < v.length → -1000000000 ≤ rd v (j : Int) ∧ rd v (j : Int) ≤ 1000000000)
include hA hv hb
theorem pitNetwork_ok : Ev (fun k => impl_pitNetwork.f k l v) ((l.length : Int) + 2, pe l.length 0 l v) := by
  have hn2 := hA.n2
  have inner : ∀ (i : Nat) (row : List Int), (∀ k, k ∈ row → 0 ≤ k ∧ k < 1000) → i < 1000 → row.length ≤ 1000 → ∀ (d : Nat) (j : Int) (acc : List S170), 0 ≤ j → j + d = (row.length : Int) → acc.length + d ≤ 100000 →
      ∀ r, Ev (fun k => impl_pitNetwork.l0 k l ((l.length : Int) + 2) (acc ++ (row.drop j.toNat).map (ed (i : Int))) v (v.length : Int) ((i : Int) + 1)) r →
        Ev (fun k => impl_pitNetwork.l1 k l ((l.length : Int) + 2) acc (i : Int) v (v.length : Int) (i : Int) row (row.length : Int) j) r := by
    intro i row hrow hi hrl d
    induction d with
    | zero =>
      intro j acc h0 h1 ha r hr
      refine Ev.step (fun k => ?_) hr
      rw [impl_pitNetwork.l1, if_neg (by omega), List.drop_eq_nil_of_le (by omega), List.map_nil, List.append_nil, wrap_id (x := (i : Int) + 1) (by omega) (by omega)]
    | succ d ih =>
      intro j acc h0 h1 ha r hr
      have hg := rd_get row j h0 (by omega)
      have hm := hrow _ (List.mem_of_getElem? hg)
      refine Ev.step (f := fun k => impl_pitNetwork.l1 k l ((l.length : Int) + 2) (acc ++ [ed (i : Int) (rd row j)]) (i : Int) v (v.length : Int) (i : Int) row (row.length : Int) (j + 1)) (fun k => ?_) (ih (j + 1) _ (by omega) (by omega) (by simp; omega) r ?_)
      · rw [impl_pitNetwork.l1, if_pos (by omega), if_pos h0, if_pos (by omega), if_pos (by omega), wrap_id (x := (i : Int) + 1) (by omega) (by omega), wrap_id (x := rd row j + 1) (by omega) (by omega), wrap_id (x := j + 1) (by omega) (by omega)]
        rfl
      · rw [map_ext_drop row _ j.toNat (by omega) _ hg] at hr
        rw [show (j + 1).toNat = j.toNat + 1 by omega, List.append_assoc]
        exact hr
  have outer : ∀ (d i : Nat) (acc : List S170), i + d = l.length → acc.length ≤ 200 * i → Ev (fun k => impl_pitNetwork.l0 k l ((l.length : Int) + 2) acc v (v.length : Int) (i : Int)) ((l.length : Int) + 2, acc ++ pe l.length (i : Int) (l.drop i) (v.drop i)) := by
    intro d
    induction d with
    | zero =>
      intro i acc h1 ha
      refine Ev.step (f := fun _ => some ((l.length : Int) + 2, acc ++ pe l.length (i : Int) (l.drop i) (v.drop i))) (fun k => ?_) (Ev.now _)
      rw [impl_pitNetwork.l0, if_neg (by omega), List.drop_eq_nil_of_le (by omega)]
      simp [pe]
    | succ d ih =>
      intro i acc h1 ha
      have hil : i < l.length := by omega
      have hiv : i < v.length := by omega
      obtain ⟨hrl, hrow⟩ := hA.row hil
      have hbi := hb i hiv
      have hld : l.drop i = rd_L1 l (i : Int) :: l.drop (i + 1) := by
        rw [List.drop_eq_getElem_cons hil, rd_L1, Int.toNat_natCast, List.getD_eq_getElem?_getD, List.getElem?_eq_getElem hil, Option.getD_some]
      have hvd : v.drop i = rd v (i : Int) :: v.drop (i + 1) := by
        rw [List.drop_eq_getElem_cons hiv, rd_nat v i hiv]
      rw [hld, hvd, pe, ← List.append_assoc, ← List.append_assoc]
      have hi1 : (i : Int) + 1 = ((i + 1 : Nat) : Int) := by omega
      have hel := edV_len l.length (i : Int) (rd v (i : Int))
      have last : ∀ acc2 : List S170, acc2 = acc ++ edV l.length (i : Int) (rd v (i : Int)) → Ev (fun k => impl_pitNetwork.j2 k l ((l.length : Int) + 2) acc2 (i : Int) v (v.length : Int) (i : Int)) ((l.length : Int) + 2, (acc ++ edV l.length (i : Int) (rd v (i : Int)) ++ (rd_L1 l (i : Int)).map (ed (i : Int))) ++ pe l.length ((i : Int) + 1) (l.drop (i + 1)) (v.drop (i + 1))) := by
        intro acc2 e2
        subst e2
        refine Ev.step (f := fun k => impl_pitNetwork.l1 k l ((l.length : Int) + 2) (acc ++ edV l.length (i : Int) (rd v (i : Int))) (i : Int) v (v.length : Int) (i : Int) (rd_L1 l (i : Int)) ((rd_L1 l (i : Int)).length : Int) 0) (fun k => ?_)
          (inner i _ (fun k hk => by have := hrow k hk; omega) (by omega) (by omega) (rd_L1 l (i : Int)).length 0 _ (by omega) (by omega) (by simp; omega) _ ?_)
        · rw [impl_pitNetwork.j2, if_pos (by omega), if_pos (by omega)]
        · have h_ := ih (i + 1) (acc ++ edV l.length (i : Int) (rd v (i : Int)) ++ (rd_L1 l (i : Int)).map (ed (i : Int))) (by omega) (by simp; omega)
          rw [hi1]
          exact h_
      have mid : ∀ acc1 : List S170, (rd v (i : Int) < 0 → acc1 = acc) → (¬ rd v (i : Int) < 0 → acc1 = acc ++ edV l.length (i : Int) (rd v (i : Int))) → acc1.length ≤ 100000 → Ev (fun k => impl_pitNetwork.j1 k l ((l.length : Int) + 2) acc1 (i : Int) (rd v (i : Int)) v (v.length : Int) (i : Int)) ((l.length : Int) + 2, (acc ++ edV l.length (i : Int) (rd v (i : Int)) ++ (rd_L1 l (i : Int)).map (ed (i : Int))) ++ pe l.length ((i : Int) + 1) (l.drop (i + 1)) (v.drop (i + 1))) := by
        intro acc1 hneg hpos hal
        by_cases hn : rd v (i : Int) < 0
        · have e1 := hneg hn
          subst e1
          refine Ev.step (fun k => ?_) (last (acc1 ++ [⟨(i : Int) + 1, (l.length : Int) + 1, -(rd v (i : Int))⟩]) (by unfold edV; rw [if_neg (by omega), if_pos hn]))
          rw [impl_pitNetwork.j1, if_pos hn, if_pos (by omega), wrap_id (x := (i : Int) + 1) (by omega) (by omega), wrap_id (x := (l.length : Int) + 2 - 1) (by omega) (by omega), wrap_id (x := -(rd v (i : Int))) (by omega) (by omega), show (l.length : Int) + 2 - 1 = (l.length : Int) + 1 by omega]
        · refine Ev.step (fun k => ?_) (last acc1 (hpos hn))
          rw [impl_pitNetwork.j1, if_neg hn]
      by_cases hp : rd v (i : Int) > 0
      · refine Ev.step (fun k => ?_) (mid (acc ++ [⟨0, (i : Int) + 1, rd v (i : Int)⟩]) (fun h => by omega) (fun _ => by unfold edV; rw [if_pos hp]) (by simp; omega))
        rw [impl_pitNetwork.l0, if_pos (by omega), if_pos (by omega), if_pos (by omega), if_pos hp, if_pos (by omega), wrap_id (x := (i : Int) + 1) (by omega) (by omega)]
      · refine Ev.step (fun k => ?_) (mid acc (fun _ => rfl) (fun h => by unfold edV; rw [if_neg hp, if_neg h, List.append_nil]) (by omega))
        rw [impl_pitNetwork.l0, if_pos (by omega), if_pos (by omega), if_pos (by omega), if_neg hp]
  have := outer l.length 0 [] (by omega) (by simp)
  rw [List.drop_zero, List.drop_zero, List.nil_append] at this
  refine Ev.congr (fun k => ?_) this
  rw [impl_pitNetwork.f, wrap_id (x := (l.length : Int) + 2) (by omega) (by omega)]
  rfl
theorem paEdges_ok : Ev (fun k => spec_paEdges.f k l v) (pe l.length 0 l v) := by
  have hn2 := hA.n2
  have inner : ∀ (i : Nat) (row : List Int), (∀ k, k ∈ row → 0 ≤ k ∧ k < 1000) → i < 1000 → row.length ≤ 1000 → ∀ (d : Nat) (j : Int) (acc : List S170), 0 ≤ j → j + d = (row.length : Int) → acc.length + d ≤ 100000 →
      ∀ r, Ev (fun k => spec_paEdges.l0 k l v (acc ++ (row.drop j.toNat).map (ed (i : Int))) l (l.length : Int) ((i : Int) + 1)) r →
        Ev (fun k => spec_paEdges.l1 k l v acc (i : Int) l (l.length : Int) (i : Int) row (row.length : Int) j) r := by
    intro i row hrow hi hrl d
    induction d with
    | zero =>
      intro j acc h0 h1 ha r hr
      refine Ev.step (fun k => ?_) hr
      rw [spec_paEdges.l1, if_neg (by omega), List.drop_eq_nil_of_le (by omega), List.map_nil, List.append_nil, wrap_id (x := (i : Int) + 1) (by omega) (by omega)]
    | succ d ih =>
      intro j acc h0 h1 ha r hr
      have hg := rd_get row j h0 (by omega)
      have hm := hrow _ (List.mem_of_getElem? hg)
      refine Ev.step (f := fun k => spec_paEdges.l1 k l v (acc ++ [ed (i : Int) (rd row j)]) (i : Int) l (l.length : Int) (i : Int) row (row.length : Int) (j + 1)) (fun k => ?_) (ih (j + 1) _ (by omega) (by omega) (by simp; omega) r ?_)
      · rw [spec_paEdges.l1, if_pos (by omega), if_pos h0, if_pos (by omega), if_pos (by omega), wrap_id (x := (i : Int) + 1) (by omega) (by omega), wrap_id (x := rd row j + 1) (by omega) (by omega), wrap_id (x := j + 1) (by omega) (by omega)]
        rfl
      · rw [map_ext_drop row _ j.toNat (by omega) _ hg] at hr
        rw [show (j + 1).toNat = j.toNat + 1 by omega, List.append_assoc]
        exact hr
  have outer : ∀ (d i : Nat) (acc : List S170), i + d = l.length → acc.length ≤ 200 * i → Ev (fun k => spec_paEdges.l0 k l v acc l (l.length : Int) (i : Int)) (acc ++ pe l.length (i : Int) (l.drop i) (v.drop i)) := by
    intro d
    induction d with
    | zero =>
      intro i acc h1 ha
      refine Ev.step (f := fun _ => some (acc ++ pe l.length (i : Int) (l.drop i) (v.drop i))) (fun k => ?_) (Ev.now _)
      rw [spec_paEdges.l0, if_neg (by omega), List.drop_eq_nil_of_le (by omega)]
      simp [pe]
    | succ d ih =>
      intro i acc h1 ha
      have hil : i < l.length := by omega
      have hiv : i < v.length := by omega
      obtain ⟨hrl, hrow⟩ := hA.row hil
      have hbi := hb i hiv
      have hld : l.drop i = rd_L1 l (i : Int) :: l.drop (i + 1) := by
        rw [List.drop_eq_getElem_cons hil, rd_L1, Int.toNat_natCast, List.getD_eq_getElem?_getD, List.getElem?_eq_getElem hil, Option.getD_some]
      have hvd : v.drop i = rd v (i : Int) :: v.drop (i + 1) := by
        rw [List.drop_eq_getElem_cons hiv, rd_nat v i hiv]
      rw [hld, hvd, pe, ← List.append_assoc, ← List.append_assoc]
      have hi1 : (i : Int) + 1 = ((i + 1 : Nat) : Int) := by omega
      have hel := edV_len l.length (i : Int) (rd v (i : Int))
      have last : ∀ acc2 : List S170, acc2 = acc ++ edV l.length (i : Int) (rd v (i : Int)) → Ev (fun k => spec_paEdges.j1 k l v acc2 (i : Int) (rd_L1 l (i : Int)) l (l.length : Int) (i : Int)) ((acc ++ edV l.length (i : Int) (rd v (i : Int)) ++ (rd_L1 l (i : Int)).map (ed (i : Int))) ++ pe l.length ((i : Int) + 1) (l.drop (i + 1)) (v.drop (i + 1))) := by
        intro acc2 e2
        subst e2
        refine Ev.step (f := fun k => spec_paEdges.l1 k l v (acc ++ edV l.length (i : Int) (rd v (i : Int))) (i : Int) l (l.length : Int) (i : Int) (rd_L1 l (i : Int)) ((rd_L1 l (i : Int)).length : Int) 0) (fun k => ?_)
          (inner i _ (fun k hk => by have := hrow k hk; omega) (by omega) (by omega) (rd_L1 l (i : Int)).length 0 _ (by omega) (by omega) (by simp; omega) _ ?_)
        · rw [spec_paEdges.j1]
        · have h_ := ih (i + 1) (acc ++ edV l.length (i : Int) (rd v (i : Int)) ++ (rd_L1 l (i : Int)).map (ed (i : Int))) (by omega) (by simp; omega)
          rw [hi1]
          exact h_
      by_cases hp : rd v (i : Int) > 0
      · refine Ev.step (fun k => ?_) (last (acc ++ [⟨0, (i : Int) + 1, rd v (i : Int)⟩]) (by unfold edV; rw [if_pos hp]))
        rw [spec_paEdges.l0, if_pos (by omega), if_pos (by omega), if_pos (by omega), if_pos (by omega), if_pos hp, if_pos (by omega), wrap_id (x := (i : Int) + 1) (by omega) (by omega)]
      · by_cases hn : rd v (i : Int) < 0
        · refine Ev.step (fun k => ?_) (last (acc ++ [⟨(i : Int) + 1, (l.length : Int) + 1, -(rd v (i : Int))⟩]) (by unfold edV; rw [if_neg hp, if_pos hn]))
          rw [spec_paEdges.l0, if_pos (by omega), if_pos (by omega), if_pos (by omega), if_pos (by omega), if_neg hp, if_pos hn, if_pos (by omega), wrap_id (x := (i : Int) + 1) (by omega) (by omega), wrap_id (x := (l.length : Int) + 1) (by omega) (by omega), wrap_id (x := -(rd v (i : Int))) (by omega) (by omega)]
        · refine Ev.step (fun k => ?_) (last acc (by unfold edV; rw [if_neg hp, if_neg hn, List.append_nil]))
          rw [spec_paEdges.l0, if_pos (by omega), if_pos (by omega), if_pos (by omega), if_pos (by omega), if_neg hp, if_neg hn]
  have := outer l.length 0 [] (by omega) (by simp)
  rw [List.drop_zero, List.drop_zero, List.nil_append] at this
  exact Ev.congr (fun k => by rw [spec_paEdges.f]; rfl) this
end
end Go.Proofs.Ytclpjlaielphfaa.Pure
end
