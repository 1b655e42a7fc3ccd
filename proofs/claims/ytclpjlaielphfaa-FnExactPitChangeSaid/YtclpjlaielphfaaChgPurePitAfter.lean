/- Used by the claim's last text. -/
import Derived.Test.YtclpjlaielphfaaChgPitV
import Derived.Test.YtclpjlaielphfaaChgPFx0
import Derived.Test.YtclpjlaielphfaaChgPFx1
import Derived.Test.YtclpjlaielphfaaChgPFx5
import Derived.Test.YtclpjlaielphfaaChgPFx9
import Derived.Test.YtclpjlaielphfaaChgPFx10
import Derived.Test.YtclpjlaielphfaaChgPFx11
import Derived.Test.YtclpjlaielphfaaChgPFx12
import Derived.Test.YtclpjlaielphfaaChgPFx13
import Derived.Test.YtclpjlaielphfaaChgPFx15
import Derived.Test.YtclpjlaielphfaaChgMark
section
namespace Go.Proofs.Ytclpjlaielphfaa.Pure
open Go Go.RowKit Go.Proofs.YtclpjlaielphfaaW.PrintWords Go.Proofs.YtclpjlaielphfaaW.PrintLast Go.Proofs.YtclpjlaielphfaaW.PrintMore Go.Proofs.Ytclpjlaielphfaa.PF Go.Proofs.Ytclpjlaielphfaa.Flow
set_option linter.unusedVariables false
set_option linter.unusedSimpArgs false
theorem vals_b {v : List Int} (h : Vals v) : ∀ j : Nat, j < v.length → -1000000000 ≤ rd v (j : Int) ∧ rd v (j : Int) ≤ 1000000 := fun j hj => by have := h.r j hj; omega
theorem best_ok {l : List (List Int)} {v : List Int} (hA : Arcs l) (hv : v.length = l.length) (hV : Vals v) : ∃ B, BestP l v B ∧ Ev (fun k => impl_bestPit.f k l v [] [] false) B := by
  obtain ⟨B, h1, h2⟩ := bestPit_ok [] [] hA hv (vals_b hV) (.inl rfl) (.inl rfl)
  rw [freeL_nil] at h1
  rw [outL_nil] at h2
  exact ⟨B, h1, h2⟩
end Go.Proofs.Ytclpjlaielphfaa.Pure
end
section
namespace Go.Proofs.Ytclpjlaielphfaa.Pure
open Go Go.RowKit Go.Proofs.YtclpjlaielphfaaW.PrintWords Go.Proofs.YtclpjlaielphfaaW.PrintLast Go.Proofs.YtclpjlaielphfaaW.PrintMore Go.Proofs.Ytclpjlaielphfaa.PF Go.Proofs.Ytclpjlaielphfaa.Flow
set_option linter.unusedVariables false
set_option linter.unusedSimpArgs false
section
variable (l : List (List Int)) (v : List Int) (hl : l.length ≤ 4611686018427387904) (hr : ∀ r, r ∈ l → r.length ≤ 4611686018427387904) (hv : v.length ≤ 4611686018427387904)
include hl hr hv
open Classical in
theorem edAsked_ok (e : List S130) (he : e.length ≤ 4611686018427387904) : Ev (fun k => spec_edAsked.f k l v e) (decide (Valid l v ∧ Edits v.length e)) := by
  have e2 := edBoth_ok l v hl hr hv
  have e4 := edList_ok v e hv he
  by_cases h : Valid l v
  · rw [decide_eq_true h] at e2
    refine Ev.congr (fun k => by rw [spec_edAsked.f]) (Ev.bind e2 ?_)
    simp only [if_true]
    refine Ev.bind e4 ?_
    refine Ev.congr (f := fun _ => some (decide (Valid l v ∧ Edits v.length e))) (fun k => ?_) (Ev.now _)
    congr 1
    exact decide_eq_decide.2 ⟨fun h_ => ⟨h, h_⟩, fun h_ => h_.2⟩
  · rw [decide_eq_false h] at e2
    rw [decide_eq_false (fun h_ => h h_.1)]
    refine Ev.congr (fun k => by rw [spec_edAsked.f]) (Ev.bind e2 ?_)
    exact Ev.congr (fun k => if_neg (by decide)) (Ev.now _)
end
end Go.Proofs.Ytclpjlaielphfaa.Pure
end
