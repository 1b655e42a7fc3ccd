/- Used by the claim's last text. -/
import Derived.Test.YtclpjlaielphfaaRsePitV
section
namespace Go.Proofs.Ytclpjlaielphfaa.Pure
open Go Go.RowKit Go.Proofs.YtclpjlaielphfaaW.PrintWords Go.Proofs.YtclpjlaielphfaaW.PrintLast Go.Proofs.YtclpjlaielphfaaW.PrintMore Go.Proofs.Ytclpjlaielphfaa.PF Go.Proofs.Ytclpjlaielphfaa.Flow
set_option linter.unusedVariables false
set_option linter.unusedSimpArgs false
theorem vals_b {v : List Int} (h : Vals v) : ∀ j : Nat, j < v.length → -1000000000 ≤ rd v (j : Int) ∧ rd v (j : Int) ≤ 1000000 := fun j hj => by have := h.r j hj; omega
theorem best_ok {l : List (List Int)} {v : List Int} (hA : Arcs l) (hv : v.length = l.length) (hV : Vals v) : ∃ B, BestP l v B ∧ Ev (fun k => impl_bestPit.f k l v [] [] false) B := by
  obtain ⟨B, h1, h2⟩ := bestPit_ok [] [] hA hv (vals_b hV) (.inl rfl) (.inl rfl)
  rw [freeL_nil] at h1
  rw [outL_nil] at h2
  exact ⟨B, h1, h2⟩
end Go.Proofs.Ytclpjlaielphfaa.Pure
end
