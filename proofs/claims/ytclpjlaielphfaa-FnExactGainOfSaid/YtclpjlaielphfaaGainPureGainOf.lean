/- Used by the claim's last text. -/
import Derived.Test.YtclpjlaielphfaaGainPitV
section
namespace Go.Proofs.Ytclpjlaielphfaa.Pure
open Go Go.RowKit Go.Proofs.YtclpjlaielphfaaW.PrintWords Go.Proofs.YtclpjlaielphfaaW.PrintLast Go.Proofs.YtclpjlaielphfaaW.PrintMore Go.Proofs.Ytclpjlaielphfaa.PF Go.Proofs.Ytclpjlaielphfaa.Flow
set_option linter.unusedVariables false
set_option linter.unusedSimpArgs false
theorem vals_b {v : List Int} (h : Vals v) : ∀ j : Nat, j < v.length → -1000000000 ≤ rd v (j : Int) ∧ rd v (j : Int) ≤ 1000000 := fun j hj => by have := h.r j hj; omega
theorem best_ok {l : List (List Int)} {v : List Int} (hA : Arcs l) (hv : v.length = l.length) (hV : Vals v) : ∃ B, BestP l v B ∧ Ev (fun k => impl_bestPit.f k l v [] [] false) B := by
  obtain ⟨B, h1, h2⟩ := bestPit_ok [] [] hA hv (vals_b hV) (.inl rfl) (.inl rfl)
  rw [freeL_nil] at h1
  rw [outL_nil] at h2
  exact ⟨B, h1, h2⟩
section
variable (l : List (List Int)) (v : List Int) (hl : l.length ≤ 4611686018427387904) (hr : ∀ r, r ∈ l → r.length ≤ 4611686018427387904) (hv : v.length ≤ 4611686018427387904)
include hl hr hv
open Classical in
theorem BestValue_ok (h : Valid l v) {B : List Bool} (hB : BestP l v B) : Ev (fun k => impl_BestValue.f k l v) (valP (bt_ B) 0 v, true) := by
  obtain ⟨B', h1, h2⟩ := best_ok h.arcs h.len h.vals
  obtain rfl := BestP.unique hB h1
  have hn2 := h.arcs.n2
  have hBl := hB.len
  have e1 := areValued_ok l v hl hr hv
  rw [decide_eq_true h] at e1
  refine Ev.congr (fun k => by rw [impl_BestValue.f]) (Ev.bind e1 ?_)
  simp only [if_true]
  refine Ev.bind h2 ?_
  refine Ev.bind (listOf_ok B (by omega)) ?_
  refine Ev.bind (valueSum_ok h.vals (by rw [hBl, h.len])) ?_
  exact Ev.now _
open Classical in
theorem GainOf_ok (e : List S130) (he : e.length ≤ 4611686018427387904) : ∃ g, Ev (fun k => impl_GainOf.f k l v e) g ∧ Ev (fun k => spec_GainOf.f k l v e) g := by
  have e1 := areValued_ok l v hl hr hv
  have e2 := edBoth_ok l v hl hr hv
  have e3 := areEdits_ok v e he
  have e4 := edList_ok v e hv he
  have no : ∀ (n : Nat), Ev (fun k => impl_GainOf.j0 k l v e true) (0, false) := fun _ => Ev.step (f := fun _ => some (0, false)) (fun k => by rw [impl_GainOf.j0, if_pos rfl]) (Ev.now _)
  by_cases h : Valid l v
  · rw [decide_eq_true h] at e1 e2
    by_cases hE : Edits v.length e
    · rw [decide_eq_true hE] at e3 e4
      have hV' := appE_vals h.vals hE
      have hl' : (appE v e).length = l.length := by rw [appE_len]; exact h.len
      have h' : Valid l (appE v e) := ⟨h.arcs, hV', hl'⟩
      obtain ⟨B, b1, b2⟩ := best_ok h.arcs h.len h.vals
      obtain ⟨C, c1, c2⟩ := best_ok h.arcs hl' hV'
      have hn2 := h.arcs.n2
      have w1 := valP_bound (bt_ B) v 0 h.vals.mem
      have w2 := valP_bound (bt_ C) (appE v e) 0 hV'.mem
      have hlv := h.len
      have hw : wrap64 (valP (bt_ C) 0 (appE v e) - valP (bt_ B) 0 v) = valP (bt_ C) 0 (appE v e) - valP (bt_ B) 0 v := wrap_id (by omega) (by omega)
      refine ⟨(valP (bt_ C) 0 (appE v e) - valP (bt_ B) 0 v, true), ?_, ?_⟩
      · refine Ev.congr (fun k => by rw [impl_GainOf.f]) (Ev.bind e1 ?_)
        simp only [if_true]
        refine Ev.bind e3 ?_
        simp only [Bool.not_true]
        refine Ev.step (fun k => by rw [impl_GainOf.j0, if_neg (by decide)]) ?_
        refine Ev.bind (BestValue_ok l v hl hr hv h b1) ?_
        refine Ev.bind (editValues_ok h.vals hE) ?_
        refine Ev.bind (BestValue_ok l (appE v e) hl hr (by rw [appE_len]; exact hv) h' c1) ?_
        simp only [hw]
        exact Ev.now _
      · refine Ev.congr (fun k => by rw [spec_GainOf.f]) (Ev.bind (a := true) ?_ ?_)
        · refine Ev.congr (fun k => by rw [spec_edAsked.f]) (Ev.bind e2 ?_)
          simp only [if_true]
          exact Ev.bind e4 (Ev.now _)
        · simp only [if_true]
          refine Ev.bind (edAfter_ok h.vals hE) ?_
          refine Ev.bind (edWorth_ok hV' h.arcs hl' c1) ?_
          refine Ev.bind (edWorth_ok h.vals h.arcs h.len b1) ?_
          simp only [hw]
          exact Ev.now _
    · rw [decide_eq_false hE] at e3 e4
      refine ⟨(0, false), ?_, ?_⟩
      · refine Ev.congr (fun k => by rw [impl_GainOf.f]) (Ev.bind e1 ?_)
        simp only [if_true]
        refine Ev.bind e3 ?_
        simp only [Bool.not_false]
        exact no 0
      · refine Ev.congr (fun k => by rw [spec_GainOf.f]) (Ev.bind (a := false) ?_ ?_)
        · refine Ev.congr (fun k => by rw [spec_edAsked.f]) (Ev.bind e2 ?_)
          simp only [if_true]
          exact Ev.bind e4 (Ev.now _)
        · exact Ev.congr (fun k => if_neg (by decide)) (Ev.now _)
  · rw [decide_eq_false h] at e1 e2
    refine ⟨(0, false), ?_, ?_⟩
    · refine Ev.congr (fun k => by rw [impl_GainOf.f]) (Ev.bind e1 ?_)
      exact Ev.congr (fun k => if_neg (by decide)) (no 0)
    · refine Ev.congr (fun k => by rw [spec_GainOf.f]) (Ev.bind (a := false) ?_ ?_)
      · refine Ev.congr (fun k => by rw [spec_edAsked.f]) (Ev.bind e2 ?_)
        exact Ev.congr (fun k => if_neg (by decide)) (Ev.now _)
      · exact Ev.congr (fun k => if_neg (by decide)) (Ev.now _)
end
theorem FnExactGainOf (l : List (List Int)) (v : List Int) (e : List S132) (hl : l.length ≤ maxLen) (hr : ∀ r, r ∈ l → r.length ≤ maxLen) (hv : v.length ≤ maxLen) (he : e.length ≤ maxLen) : ∃ k, laws_FnExactGainOf.f k l v e = some true := by
  refine Ev.rounds (g := fun k => laws_FnExactGainOf.f k l v e) ?_
  by_cases hv1 : (v.length : Int) > 1048576
  · exact Ev.congr (f := fun _ => some true) (fun k => by rw [laws_FnExactGainOf.f, if_pos hv1]) (Ev.now _)
  · refine Ev.congr (fun k => by rw [laws_FnExactGainOf.f, if_neg hv1]) ?_
    obtain ⟨s, s1, s2, s3⟩ := szIntSS_ok l 1048576 (by omega) (by omega) hl hr
    refine Ev.bind s1 ?_
    by_cases hs : s < 0
    · simp only [if_pos hs]; exact Ev.now _
    simp only [if_neg hs]
    obtain ⟨t, t1, t2⟩ := szEditS_ok e s (by omega) (by omega) he
    simp only [t1, Option.bind_some]
    by_cases ht : t < 0
    · simp only [if_pos ht]; exact Ev.now _
    simp only [if_neg ht]
    have hs3 := s3 (by omega)
    have ht2 := t2 (by omega)
    have hrow : ∀ r, r ∈ l → r.length ≤ 1048576 := fun r h => by have := row_le h; omega
    have cA := toIntSS_ok l (by omega) (fun r h => by have := hrow r h; omega)
    have cV := toIntS_ok v (by omega)
    have cE := toEditS_ok e (by omega)
    have hel : (e.map conv).length = e.length := by simp
    obtain ⟨g, g1, g2⟩ := GainOf_ok l v (by omega) (fun r h => by have := hrow r h; omega) (by omega) (e.map conv) (by omega)
    refine Ev.bind cA ?_
    refine Ev.bind cV ?_
    refine Ev.bind cE ?_
    refine Ev.bind g2 ?_
    refine Ev.bind cA ?_
    refine Ev.bind cV ?_
    refine Ev.bind cE ?_
    refine Ev.bind g1 ?_
    simp only [if_true, bne_self_eq_false]
    refine Ev.step (fun k => by rw [laws_FnExactGainOf.j0, if_neg (by decide)]) ?_
    refine Ev.bind cA ?_
    refine Ev.bind (eqIntSS_refl l (by omega) (fun r h => by have := hrow r h; omega)) ?_
    simp only [if_true]
    refine Ev.bind cV ?_
    refine Ev.bind (eqIntS_refl v (by omega)) ?_
    simp only [if_true]
    refine Ev.bind cE ?_
    refine Ev.bind (eqEditS_refl (e.map conv) (by omega)) ?_
    simp only [if_true]
    exact Ev.now _
end Go.Proofs.Ytclpjlaielphfaa.Pure
end
