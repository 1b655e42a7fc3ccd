/- Used by the claim's last text. -/
import Derived.Test.YtclpjlaielphfaaRseFlow8
import Derived.Test.YtclpjlaielphfaaRseFlow9
section
namespace Go.Proofs.Ytclpjlaielphfaa.Flow
open Go Go.RowKit Go.Proofs.YtclpjlaielphfaaW.PrintWords Go.Proofs.YtclpjlaielphfaaW.PrintLast Go.Proofs.YtclpjlaielphfaaW.PrintMore
set_option linter.unusedVariables false
theorem R_LA {w : World} {base : Nat} {ok : Nat → Prop} {A : Option Addr} {n c : Nat} {l : List Int} (h : Kd.R KI 3 w base ok (.slice A n c) l) : ∃ b, LA w A b l ∧ (l ≠ [] → (Value.slice A n c).ownBlock = some b) := by
  by_cases hl : l = []
  · exact ⟨0, .inl hl, fun h => absurd hl h⟩
  · obtain ⟨b, cap, he, hb, hlt, hc⟩ := Kd.R_form h (by cases l <;> simp_all)
    injection he with h1 h2 h3
    subst h1
    subst h2
    exact ⟨b, .inr ⟨rfl, Arr.of_own (Kd.own_of_R h) rfl⟩, fun _ => by simp [Value.ownBlock]⟩
section
variable {w w' : World} {g : Nat} {cs : Value → Value → Array Value} {ty bE cE n : Nat} {E : List (List Int)} {tt left : List Int} {AT AL : Option Addr} {nT cT nL cL : Nat}
def okOf (w' : World) (base : Nat) (vL : Value) : Nat → Prop := fun k => some k ≠ vL.ownBlock ∧ base ≤ k ∧ k < w'.heap.size
theorem NetInv.parts (h : NetInv w w' g cs ty bE cE E tt left (.slice AT nT cT) (.slice AL nL cL)) (hm : left.length ≤ 9223372036854775807) :
    nT = tt.length ∧ nL = left.length ∧ Kd.F KR w' (fun k => okOf w' w.heap.size (.slice AL nL cL) k ∧ k ≠ g) (some ⟨bE, 0, none⟩) E.length E ∧ Kd.F KI w' (fun k => okOf w' w.heap.size (.slice AL nL cL) k ∧ k ≠ g) AT tt.length tt ∧
    ∃ bL, LA w' AL bL left ∧ w.heap.size ≤ bL ∧ (left.length = 0 ∨ (bL < w'.heap.size ∧ bL ≠ g ∧ ∀ b, okOf w' w.heap.size (.slice AL nL cL) b → b ≠ bL)) := by
  have e1 := (Kd.R_reads' h.hT).1
  have e2 := (Kd.R_reads' h.hL).1
  have htE : ∀ q, q ∈ (23 : Nat) :: KR.E → q ≠ ty := by
    intro q hq
    simp [Kd.slice, Kd.int, Kd.scalar] at hq
    have := h.hty
    omega
  have htI : ∀ q, q ∈ (3 : Nat) :: KI.E → q ≠ ty := by
    intro q hq
    simp [Kd.int, Kd.scalar] at hq
    have := h.hty
    omega
  refine ⟨e1, e2, Kd.F_mono (Kd.S_F (Kd.S_bound (Kd.S_types h.hE h.hg htE))) (fun k hk => ⟨⟨hk.1.1.2, hk.2.1, hk.2.2.1⟩, hk.1.2⟩), ?_, ?_⟩
  · have h_ := Kd.F_mono (Kd.R_F (Kd.R_bound (Kd.R_types h.hT h.hg htI))) (ok' := fun k => okOf w' w.heap.size (.slice AL nL cL) k ∧ k ≠ g) (fun k hk => ⟨⟨hk.1.1, hk.2.1, hk.2.2.1⟩, hk.1.2⟩)
    rw [e1] at h_
    exact h_
  · by_cases hl : left = []
    · exact ⟨w'.heap.size, .inl hl, h.mov.size, .inl (by rw [hl]; rfl)⟩
    · obtain ⟨bL, hLA, hbL⟩ := R_LA h.hL
      have hb := hbL hl
      refine ⟨bL, hLA, Kd.R_base h.hL bL hb, .inr ⟨Kd.R_lt h.hL bL hb, ?_, fun b hk e => hk.1 (by rw [e]; exact hb.symm)⟩⟩
      rintro rfl
      obtain ⟨c3, h3⟩ := Kd.R_typed h.hL bL hb
      rw [h.hg] at h3
      injection h3 with h3
      injection h3 with _ h3
      exact h.hty.1 h3
end
end Go.Proofs.Ytclpjlaielphfaa.Flow
end
