/- Used by the claim's last text. -/
import Derived.Test.YtclpjlaielphfaaAftPureGainOf
import Derived.Test.YtclpjlaielphfaaAftPFx16
section
namespace Go.Proofs.Ytclpjlaielphfaa.Pure
open Go Go.RowKit Go.Proofs.YtclpjlaielphfaaW.PrintWords Go.Proofs.YtclpjlaielphfaaW.PrintLast Go.Proofs.YtclpjlaielphfaaW.PrintMore Go.Proofs.Ytclpjlaielphfaa.PF Go.Proofs.Ytclpjlaielphfaa.Flow
set_option linter.unusedVariables false
set_option linter.unusedSimpArgs false
section
variable (l : List (List Int)) (v : List Int) (hl : l.length ≤ 4611686018427387904) (hr : ∀ r, r ∈ l → r.length ≤ 4611686018427387904) (hv : v.length ≤ 4611686018427387904)
include hl hr hv
open Classical in
theorem edAsked_ok (e : List S130) (he : e.length ≤ 4611686018427387904) : Ev (fun k => spec_edAsked.f k l v e) (decide (Valid l v ∧ Edits v.length e)) := by
  have e2 := edBoth_ok l v hl hr hv
  have e4 := edList_ok v e hv he
  by_cases h : Valid l v
  · rw [decide_eq_true h] at e2
    refine Ev.congr (fun k => by rw [spec_edAsked.f]) (Ev.bind e2 ?_)
    simp only [if_true]
    refine Ev.bind e4 ?_
    refine Ev.congr (f := fun _ => some (decide (Valid l v ∧ Edits v.length e))) (fun k => ?_) (Ev.now _)
    congr 1
    exact decide_eq_decide.2 ⟨fun h_ => ⟨h, h_⟩, fun h_ => h_.2⟩
  · rw [decide_eq_false h] at e2
    rw [decide_eq_false (fun h_ => h h_.1)]
    refine Ev.congr (fun k => by rw [spec_edAsked.f]) (Ev.bind e2 ?_)
    exact Ev.congr (fun k => if_neg (by decide)) (Ev.now _)
open Classical in
theorem PitAfter_ok (e : List S130) (he : e.length ≤ 4611686018427387904) : ∃ g, Ev (fun k => impl_PitAfter.f k l v e) g ∧ Ev (fun k => spec_PitAfter.f k l v e) g ∧ g.1.length ≤ 1000 := by
  have e1 := areValued_ok l v hl hr hv
  have e2 := edAsked_ok l v hl hr hv e he
  have e3 := areEdits_ok v e he
  have no : Ev (fun k => impl_PitAfter.j0 k l v e true) (([] : List Int), false) := Ev.step (f := fun _ => some ([], false)) (fun k => by rw [impl_PitAfter.j0, if_pos rfl]) (Ev.now _)
  by_cases h : Valid l v
  · rw [decide_eq_true h] at e1
    by_cases hE : Edits v.length e
    · rw [decide_eq_true hE] at e3
      rw [decide_eq_true ⟨h, hE⟩] at e2
      have hV' := appE_vals h.vals hE
      have hl' : (appE v e).length = l.length := by rw [appE_len]; exact h.len
      obtain ⟨C, c1, c2⟩ := best_ok h.arcs hl' hV'
      have hn2 := h.arcs.n2
      have hCl := c1.len
      refine ⟨(onL 0 C, true), ?_, ?_, by have := onL_len C 0; simp only []; omega⟩
      · refine Ev.congr (fun k => by rw [impl_PitAfter.f]) (Ev.bind e1 ?_)
        simp only [if_true]
        refine Ev.bind e3 ?_
        simp only [Bool.not_true]
        refine Ev.step (fun k => by rw [impl_PitAfter.j0, if_neg (by decide)]) ?_
        refine Ev.bind (editValues_ok h.vals hE) ?_
        refine Ev.bind c2 ?_
        refine Ev.bind (listOf_ok C (by omega)) ?_
        exact Ev.now _
      · refine Ev.congr (fun k => by rw [spec_PitAfter.f]) (Ev.bind e2 ?_)
        simp only [if_true]
        refine Ev.bind (edAfter_ok h.vals hE) ?_
        refine Ev.bind (paFind_ok h.arcs hl' (vals_b hV') c1) ?_
        exact Ev.now _
    · rw [decide_eq_false hE] at e3
      rw [decide_eq_false (fun h_ => hE h_.2)] at e2
      refine ⟨([], false), ?_, ?_, by simp⟩
      · refine Ev.congr (fun k => by rw [impl_PitAfter.f]) (Ev.bind e1 ?_)
        simp only [if_true]
        refine Ev.bind e3 ?_
        simp only [Bool.not_false]
        exact no
      · refine Ev.congr (fun k => by rw [spec_PitAfter.f]) (Ev.bind e2 ?_)
        exact Ev.congr (fun k => if_neg (by decide)) (Ev.now _)
  · rw [decide_eq_false h] at e1
    rw [decide_eq_false (fun h_ => h h_.1)] at e2
    refine ⟨([], false), ?_, ?_, by simp⟩
    · refine Ev.congr (fun k => by rw [impl_PitAfter.f]) (Ev.bind e1 ?_)
      exact Ev.congr (fun k => if_neg (by decide)) no
    · refine Ev.congr (fun k => by rw [spec_PitAfter.f]) (Ev.bind e2 ?_)
      exact Ev.congr (fun k => if_neg (by decide)) (Ev.now _)
end
theorem FnExactPitAfter (l : List (List Int)) (v : List Int) (e : List S132) (hl : l.length ≤ maxLen) (hr : ∀ r, r ∈ l → r.length ≤ maxLen) (hv : v.length ≤ maxLen) (he : e.length ≤ maxLen) : ∃ k, laws_FnExactPitAfter.f k l v e = some true := by
  refine Ev.rounds (g := fun k => laws_FnExactPitAfter.f k l v e) ?_
  by_cases hv1 : (v.length : Int) > 1048576
  · exact Ev.congr (f := fun _ => some true) (fun k => by rw [laws_FnExactPitAfter.f, if_pos hv1]) (Ev.now _)
  · refine Ev.congr (fun k => by rw [laws_FnExactPitAfter.f, if_neg hv1]) ?_
    obtain ⟨s, s1, s2, s3⟩ := szIntSS_ok l 1048576 (by omega) (by omega) hl hr
    refine Ev.bind s1 ?_
    by_cases hs : s < 0
    · simp only [if_pos hs]; exact Ev.now _
    simp only [if_neg hs]
    obtain ⟨t, t1, t2⟩ := szEditS_ok e s (by omega) (by omega) he
    simp only [t1, Option.bind_some]
    by_cases ht : t < 0
    · simp only [if_pos ht]; exact Ev.now _
    simp only [if_neg ht]
    have hs3 := s3 (by omega)
    have ht2 := t2 (by omega)
    have hrow : ∀ r, r ∈ l → r.length ≤ 1048576 := fun r h => by have := row_le h; omega
    have cA := toIntSS_ok l (by omega) (fun r h => by have := hrow r h; omega)
    have cV := toIntS_ok v (by omega)
    have cE := toEditS_ok e (by omega)
    have hel : (e.map conv).length = e.length := by simp
    obtain ⟨⟨g, b⟩, g1, g2, g3⟩ := PitAfter_ok l v (by omega) (fun r h => by have := hrow r h; omega) (by omega) (e.map conv) (by omega)
    simp only [] at g3
    have qg := eqIntS_refl g (by omega)
    refine Ev.bind cA ?_
    refine Ev.bind cV ?_
    refine Ev.bind cE ?_
    refine Ev.bind g2 ?_
    refine Ev.bind cA ?_
    refine Ev.bind cV ?_
    refine Ev.bind cE ?_
    refine Ev.bind g1 ?_
    refine Ev.bind qg ?_
    simp only [if_true, bne_self_eq_false]
    refine Ev.step (fun k => by rw [laws_FnExactPitAfter.j0, if_neg (by decide)]) ?_
    refine Ev.bind cA ?_
    refine Ev.bind (eqIntSS_refl l (by omega) (fun r h => by have := hrow r h; omega)) ?_
    simp only [if_true]
    refine Ev.bind cV ?_
    refine Ev.bind (eqIntS_refl v (by omega)) ?_
    simp only [if_true]
    refine Ev.bind cE ?_
    refine Ev.bind (eqEditS_refl (e.map conv) (by omega)) ?_
    simp only [if_true]
    obtain ⟨v', m1, _, _⟩ := markIntS_ok v (1 + (tot l : Int)) (by omega) (by omega)
    obtain ⟨e', m2⟩ := markEditS_ok (e.map conv) (1 + (tot l : Int) + (v.length : Int)) (by omega) (by omega)
    refine Ev.bind (markIntSS_ok l 1 (by omega) (by omega) (by omega)) ?_
    refine Ev.bind m1 ?_
    refine Ev.bind m2 ?_
    simp only []
    refine Ev.congr (fun k => if_neg (by omega)) ?_
    refine Ev.bind qg ?_
    simp only [if_true, bne_self_eq_false]
    refine Ev.step (fun k => by rw [laws_FnExactPitAfter.j1, if_neg (by decide)]) ?_
    obtain ⟨g', n1, n2, n3⟩ := markIntS_ok g 1 (by omega) (by omega)
    have hh := heldIntS_ok g' 1 (by omega) (by omega) (fun i h0 h1 => n3 i h0 (by omega))
    rw [n2] at hh
    refine Ev.bind n1 ?_
    refine Ev.bind hh ?_
    simp only []
    refine Ev.congr (fun k => if_neg (by omega)) ?_
    simp only [if_true]
    refine Ev.bind cA ?_
    refine Ev.bind cV ?_
    refine Ev.bind cE ?_
    refine Ev.bind g1 ?_
    refine Ev.bind qg ?_
    simp only [if_true, bne_self_eq_false]
    refine Ev.step (fun k => by rw [laws_FnExactPitAfter.j2, if_neg (by decide)]) ?_
    refine Ev.bind hh ?_
    refine Ev.congr (fun k => if_neg (by omega)) ?_
    simp only [if_true]
    exact Ev.now _
end Go.Proofs.Ytclpjlaielphfaa.Pure
end
