/- Used by the claim's last text. -/
import Derived.Test.YtclpjlaielphfaaRsePFx8
section
namespace Go.Proofs.Ytclpjlaielphfaa.PF
open Go Go.RowKit Go.Proofs.YtclpjlaielphfaaW.PrintWords Go.Proofs.YtclpjlaielphfaaW.PrintLast Go.Proofs.YtclpjlaielphfaaW.PrintMore
set_option linter.unusedVariables false
theorem mark_len : ∀ k x l n i t, impl_markOf.l0 k x l n i = some t → t.length = x.length := by
  intro k
  induction k with
  | zero => intro x l n i t h; simp [impl_markOf.l0] at h
  | succ k ih =>
    intro x l n i t h
    rw [impl_markOf.l0] at h
    repeat (split at h)
    all_goals first
      | cases h; done
      | (have := ih _ _ _ _ _ h; simpa using this)
      | (injection h with h; rw [h])
theorem mark_ne {k : Nat} {n a : Int} {t : List Bool} (h : impl_markOf.f k n [a] = some t) : t.length = n.toNat ∧ t ≠ [] := by
  unfold impl_markOf.f at h
  split at h
  · split at h
    · have h1 := mark_len _ _ _ _ _ _ h
      rw [List.length_replicate] at h1
      refine ⟨h1, fun e => ?_⟩
      rw [e] at h1
      have h2 : n.toNat = 0 := h1.symm
      cases k with
      | zero => simp [impl_markOf.l0] at h
      | succ k =>
        rw [impl_markOf.l0, h2] at h
        simp at h
        omega
    · cases h
  · cases h
theorem closure_len : ∀ k, (∀ x y i t, impl_closureOf.l0 k x y i = some t → t.length = y.length) ∧ (∀ x y i l n j t, impl_closureOf.l1 k x y i l n j = some t → t.length = y.length) := by
  intro k
  induction k with
  | zero => exact ⟨fun _ _ _ _ h => by simp [impl_closureOf.l0] at h, fun _ _ _ _ _ _ _ h => by simp [impl_closureOf.l1] at h⟩
  | succ k ih =>
    refine ⟨fun x y i t h => ?_, fun x y i l n j t h => ?_⟩
    · rw [impl_closureOf.l0] at h
      repeat (split at h)
      all_goals first
        | cases h; done
        | exact ih.1 _ _ _ _ h
        | exact ih.2 _ _ _ _ _ _ _ h
        | (injection h with h; rw [h])
    · rw [impl_closureOf.l1] at h
      repeat (split at h)
      all_goals first
        | cases h; done
        | exact ih.1 _ _ _ _ h
        | (have := ih.2 _ _ _ _ _ _ _ h; simpa using this)
theorem closure_ne {k : Nat} {l : List (List Int)} {a : Int} {t : List Bool} (h : impl_closureOf.f k l [a] = some t) : t.length = l.length ∧ t ≠ [] := by
  unfold impl_closureOf.f at h
  obtain ⟨y, hy, h⟩ := Option.bind_eq_some_iff.mp h
  have h1 := mark_ne hy
  have h2 := (closure_len k).1 _ _ _ _ h
  refine ⟨by rw [h2, h1.1]; simp, fun e => h1.2 ?_⟩
  rw [e] at h2
  exact List.length_eq_zero_iff.1 h2.symm
theorem ite_some {α : Type} {c : Prop} [Decidable c] {a : Option α} {t : α} (h : (if c then a else none) = some t) : a = some t := by
  by_cases hc : c
  · rwa [if_pos hc] at h
  · rw [if_neg hc] at h; cases h
theorem below_len : ∀ k, (∀ x y i t, impl_belowOf.l0 k x y i = some t → t.length = y.length) ∧ (∀ x y i l n j t, impl_belowOf.l1 k x y i l n j = some t → t.length = y.length) := by
  intro k
  induction k with
  | zero => exact ⟨fun _ _ _ _ h => by simp [impl_belowOf.l0] at h, fun _ _ _ _ _ _ _ h => by simp [impl_belowOf.l1] at h⟩
  | succ k ih =>
    refine ⟨fun x y i t h => ?_, fun x y i l n j t h => ?_⟩
    · rw [impl_belowOf.l0] at h
      repeat' (first | replace h := ite_some h | split at h)
      all_goals first
        | cases h; done
        | exact ih.1 _ _ _ _ h
        | exact ih.2 _ _ _ _ _ _ _ h
        | (injection h with h; rw [h])
    · rw [impl_belowOf.l1] at h
      repeat' (first | replace h := ite_some h | split at h)
      all_goals first
        | cases h; done
        | exact ih.1 _ _ _ _ h
        | (have := ih.2 _ _ _ _ _ _ _ h; simpa using this)
theorem below_ne {k : Nat} {l : List (List Int)} {a : Int} {t : List Bool} (h : impl_belowOf.f k l a = some t) : t.length = l.length ∧ t ≠ [] := by
  unfold impl_belowOf.f at h
  obtain ⟨y, hy, h⟩ := Option.bind_eq_some_iff.mp h
  have h1 := mark_ne hy
  have h2 := (below_len k).1 _ _ _ _ h
  refine ⟨by rw [h2, h1.1]; simp, fun e => h1.2 ?_⟩
  rw [e] at h2
  exact List.length_eq_zero_iff.1 h2.symm
end Go.Proofs.Ytclpjlaielphfaa.PF
end
