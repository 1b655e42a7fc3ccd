/- Used by the claim's last text. -/
import Derived.Test.YtclpjlaielphfaaDrpFlowP
section
namespace Go.Proofs.Ytclpjlaielphfaa.Flow
open Go Go.RowKit Go.Proofs.YtclpjlaielphfaaW.PrintWords Go.Proofs.YtclpjlaielphfaaW.PrintLast Go.Proofs.YtclpjlaielphfaaW.PrintMore
set_option linter.unusedVariables false
theorem fsOut_mono (E : List (List Int)) (tt left : List Int) : ∀ k I V Q r, fsOut E tt left k I V Q = some r → fsOut E tt left (k + 1) I V Q = some r := by
  intro k
  induction k with
  | zero => intro I V Q r h; cases Q <;> simp [fsOut] at h
  | succ k ih =>
    intro I V Q r h
    cases Q with
    | nil => simpa [fsOut] using h
    | cons a Q =>
      rw [fsOut] at h ⊢
      split at h
      · rename_i ha
        rw [if_pos ha]
        obtain ⟨x, hx, h⟩ := Option.bind_eq_some_iff.mp h
        exact Option.bind_eq_some_iff.mpr ⟨x, hx, ih _ _ _ _ h⟩
      · cases h
theorem fs_mono {k : Nat} {E : List (List Int)} {tt left : List Int} {r : List Bool × List Int} (h : fs k E tt left = some r) : fs (k + 1) E tt left = some r := by
  unfold fs at h ⊢
  split at h
  · rename_i hn
    rw [if_pos hn]
    exact fsOut_mono _ _ _ _ _ _ _ _ h
  · cases h
theorem lvOut_mono (E : List (List Int)) (tt left : List Int) : ∀ k V Q i r, lvOut E tt left k V Q i = some r → lvOut E tt left (k + 1) V Q i = some r := by
  intro k
  induction k with
  | zero => intro V Q i r h; simp [lvOut] at h
  | succ k ih =>
    intro V Q i r h
    rw [lvOut] at h ⊢
    split at h
    · rename_i hi
      rw [if_pos hi]
      split at h
      · rename_i ha
        rw [if_pos ha]
        obtain ⟨x, hx, h⟩ := Option.bind_eq_some_iff.mp h
        exact Option.bind_eq_some_iff.mpr ⟨x, hx, ih _ _ _ _ h⟩
      · cases h
    · rename_i hi
      rw [if_neg hi]
      exact h
theorem lv_mono {k : Nat} {E : List (List Int)} {tt left : List Int} {r : List Int} (h : lv k E tt left = some r) : lv (k + 1) E tt left = some r := by
  unfold lv at h ⊢
  split at h
  · rename_i hn
    rw [if_pos hn]
    exact lvOut_mono _ _ _ _ _ _ _ _ h
  · cases h
theorem push_mono (E : List (List Int)) (tt V : List Int) : ∀ k, (∀ a most left next, LeO (push E tt V k a most left next) (push E tt V (k + 1) a most left next)) ∧ (∀ a most left next, LeO (pushL E tt V k a most left next) (pushL E tt V (k + 1) a most left next)) := by
  intro k
  induction k with
  | zero => exact ⟨fun _ _ _ _ r h => by simp [push] at h, fun _ _ _ _ r h => by simp [pushL] at h⟩
  | succ k ih =>
    refine ⟨fun a most left next => ?_, fun a most left next => ?_⟩
    · rw [push, push]
      exact LeO.ite (LeO.refl _) (ih.2 _ _ _ _)
    · rw [pushL, pushL]
      refine LeO.ite (LeO.ite (LeO.ite (LeO.ite (ih.2 _ _ _ _) (LeO.ite (LeO.ite (ih.2 _ _ _ _) (LeO.bind (ih.1 _ _ _ _) fun x => LeO.ite (LeO.refl _) (LeO.ite (ih.2 _ _ _ _) (LeO.refl _)))) (LeO.refl _))) (LeO.refl _)) (LeO.refl _)) (LeO.refl _)
theorem phase_mono (E : List (List Int)) (tt V : List Int) (top : Int) : ∀ k sum left next, LeO (phase E tt V top k sum left next) (phase E tt V top (k + 1) sum left next) := by
  intro k
  induction k with
  | zero => exact fun _ _ _ r h => by simp [phase] at h
  | succ k ih =>
    intro sum left next
    rw [phase, phase]
    exact LeO.bind ((push_mono E tt V k).1 _ _ _ _) fun x => LeO.ite (LeO.refl _) (ih _ _ _)
theorem runI_mono (E : List (List Int)) (tt : List Int) : ∀ k sum left, LeO (runI E tt k sum left) (runI E tt (k + 1) sum left) := by
  intro k
  induction k with
  | zero => exact fun _ _ r h => by simp [runI] at h
  | succ k ih =>
    intro sum left
    rw [runI, runI]
    exact LeO.bind (fun _ h => fs_mono h) fun x => LeO.ite (LeO.ite (LeO.bind (phase_mono _ _ _ _ _ _ _ _) fun y => ih _ _) (LeO.refl _)) (LeO.refl _)
theorem runS_mono (E : List (List Int)) (tt : List Int) : ∀ k sum left, LeO (runS E tt k sum left) (runS E tt (k + 1) sum left) := by
  intro k
  induction k with
  | zero => exact fun _ _ r h => by simp [runS] at h
  | succ k ih =>
    intro sum left
    rw [runS, runS]
    exact LeO.bind (fun _ h => lv_mono h) fun x => LeO.ite (LeO.ite (LeO.refl _) (LeO.bind (phase_mono _ _ _ _ _ _ _ _) fun y => ih _ _)) (LeO.refl _)
end Go.Proofs.Ytclpjlaielphfaa.Flow
end
