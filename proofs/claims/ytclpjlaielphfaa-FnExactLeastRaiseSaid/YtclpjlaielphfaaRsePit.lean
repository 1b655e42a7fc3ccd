/- Used by the claim's last text. -/
import Derived.Test.YtclpjlaielphfaaRseBest
import Derived.Test.YtclpjlaielphfaaRseFlowM
section
namespace Go.Proofs.Ytclpjlaielphfaa.PF
open Go Go.RowKit Go.Proofs.YtclpjlaielphfaaW.PrintWords Go.Proofs.YtclpjlaielphfaaW.PrintLast Go.Proofs.YtclpjlaielphfaaW.PrintMore Go.Proofs.Ytclpjlaielphfaa.Flow
set_option linter.unusedVariables false
def impl_bestPit.f (k : Nat) (l0 : List (List Int)) (l1 : List Int) (l2 l3 : List Bool) (a4 : Bool) : Option (List Bool) := bestF k l0 l1 l2 l3 a4
theorem impl_bestPit.mono : ∀ l0 l1 l2 l3 a4 k, LeO (impl_bestPit.f k l0 l1 l2 l3 a4) (impl_bestPit.f (k + 1) l0 l1 l2 l3 a4) := by
  intro l0 l1 l2 l3 a4 k
  unfold impl_bestPit.f bestF
  exact LeO.ite (LeO.bind (impl_pitNetwork.mono _ _ _) fun p => LeO.ite (LeO.bind (LeO.refl _) fun s => LeO.bind (runI_mono _ _ _ _ _) fun r => LeO.bind (fun _ h => fs_mono h) fun m => LeO.refl _) (LeO.refl _)) (LeO.refl _)
theorem impl_bestPit.calls (k : Nat) (A0 : Option Addr) (c0 : Nat) (l0 : List (List Int)) (A1 : Option Addr) (c1 : Nat) (l1 : List Int) (A2 : Option Addr) (c2 : Nat) (l2 : List Bool) (A3 : Option Addr) (c3 : Nat) (l3 : List Bool) (a4 : Bool) (r : List Bool) (w : World) (hr0 : Kd.C (Kd.slice 3 (Kd.int .i64)) w A0 l0.length l0) (hc0 : l0.length ≤ c0) (hr1 : Kd.C (Kd.int .i64) w A1 l1.length l1) (hc1 : l1.length ≤ c1) (hr2 : Kd.C Kd.bool w A2 l2.length l2) (hc2 : l2.length ≤ c2) (hr3 : Kd.C Kd.bool w A3 l3.length l3) (hc3 : l3.length ≤ c3) (h : impl_bestPit.f k l0 l1 l2 l3 a4 = some r)
    (hA2 : l2 = [] → A2 = none := by exact fun _ => rfl) (hA3 : l3 = [] → A3 = none := by exact fun _ => rfl) :
    Calls Try.prog 115 #[.slice A0 l0.length c0, .slice A1 l1.length c1, .slice A2 l2.length c2, .slice A3 l3.length c3, .bool a4] w fun e w' => ∃ v0_ : Value, e = .returned (v0_) ∧ Kd.Q Kd.bool 4 w' w.heap.size (fun _ => True) v0_ r ∧ Below w.heap.size w w' := by
  have ha : a4 = false := by
    unfold impl_bestPit.f bestF at h
    split at h
    · rename_i hg; exact hg.1
    · cases h
  subst ha
  exact best_walk k A0 c0 l0 A1 c1 l1 A2 c2 l2 A3 c3 l3 r w hr0 hc0 hr1 hc1 hr2 hr3 hA2 hA3 h
def spec_mfLeast.f (k : Nat) (a0 : Int) (l1 : List S170) : Option (List Int) := leastF k a0 l1
theorem spec_mfLeast.mono : ∀ a0 l1 k, LeO (spec_mfLeast.f k a0 l1) (spec_mfLeast.f (k + 1) a0 l1) := by
  intro a0 l1 k
  unfold spec_mfLeast.f leastF
  exact LeO.ite (LeO.bind (LeO.refl _) fun s => LeO.bind (runS_mono _ _ _ _ _) fun r => LeO.bind (fun _ h => lv_mono h) fun V => LeO.refl _) (LeO.refl _)
theorem spec_mfLeast.calls (k : Nat) (a0 : Int) (A1 : Option Addr) (c1 : Nat) (l1 : List S170) (r : List Int) (w : World) (hr1 : Kd.C k170 w A1 l1.length l1) (hc1 : l1.length ≤ c1) (h : spec_mfLeast.f k a0 l1 = some r) :
    Calls Try.prog 139 #[.int .i64 a0, .slice A1 l1.length c1] w fun e w' => ∃ v0_ : Value, e = .returned (v0_) ∧ Kd.R (Kd.int .i64) 3 w' w.heap.size (fun _ => True) v0_ r ∧ Below w.heap.size w w' :=
  least_calls' k a0 A1 c1 l1 r w hr1 hc1 h
end Go.Proofs.Ytclpjlaielphfaa.PF
end
