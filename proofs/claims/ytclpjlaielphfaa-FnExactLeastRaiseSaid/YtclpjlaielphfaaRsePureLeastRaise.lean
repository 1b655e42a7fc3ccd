/- Used by the claim's last text. -/
import Derived.Test.YtclpjlaielphfaaRsePureLeast
import Derived.Test.YtclpjlaielphfaaRsePFx10
section
namespace Go.Proofs.Ytclpjlaielphfaa.Pure
open Go Go.RowKit Go.Proofs.YtclpjlaielphfaaW.PrintWords Go.Proofs.YtclpjlaielphfaaW.PrintLast Go.Proofs.YtclpjlaielphfaaW.PrintMore Go.Proofs.Ytclpjlaielphfaa.PF Go.Proofs.Ytclpjlaielphfaa.Flow
set_option linter.unusedVariables false
set_option linter.unusedSimpArgs false
theorem FnExactLeastRaise (l : List (List Int)) (v : List Int) (a : Int) (hl : l.length ≤ maxLen) (hr : ∀ r, r ∈ l → r.length ≤ maxLen) (hv : v.length ≤ maxLen) : ∃ k, laws_FnExactLeastRaise.f k l v a = some true := by
  refine Ev.rounds (g := fun k => laws_FnExactLeastRaise.f k l v a) ?_
  by_cases hv1 : (v.length : Int) > 1048576
  · exact Ev.congr (f := fun _ => some true) (fun k => by rw [laws_FnExactLeastRaise.f, if_pos hv1]) (Ev.now _)
  · refine Ev.congr (fun k => by rw [laws_FnExactLeastRaise.f, if_neg hv1]) ?_
    obtain ⟨s, s1, s2, s3⟩ := szIntSS_ok l 1048576 (by omega) (by omega) hl hr
    refine Ev.bind s1 ?_
    by_cases hs : s < 0
    · simp only [if_pos hs]; exact Ev.now _
    simp only [if_neg hs]
    have hs3 := s3 (by omega)
    have hrow : ∀ r, r ∈ l → r.length ≤ 1048576 := fun r h => by have := row_le h; omega
    have cA := toIntSS_ok l (by omega) (fun r h => by have := hrow r h; omega)
    have cV := toIntS_ok v (by omega)
    obtain ⟨g, g1, g2⟩ := LeastRaise_ok l v (by omega) (fun r h => by have := hrow r h; omega) (by omega) a
    refine Ev.bind cA ?_
    refine Ev.bind cV ?_
    refine Ev.bind g2 ?_
    refine Ev.bind cA ?_
    refine Ev.bind cV ?_
    refine Ev.bind g1 ?_
    simp only [if_true, bne_self_eq_false]
    refine Ev.step (fun k => by rw [laws_FnExactLeastRaise.j0, if_neg (by decide)]) ?_
    refine Ev.bind cA ?_
    refine Ev.bind (eqIntSS_refl l (by omega) (fun r h => by have := hrow r h; omega)) ?_
    simp only [if_true]
    refine Ev.bind cV ?_
    refine Ev.bind (eqIntS_refl v (by omega)) ?_
    simp only [if_true]
    exact Ev.now _
end Go.Proofs.Ytclpjlaielphfaa.Pure
end
