/- Used by the claim's last text. -/
import Derived.Test.YtclpjlaielphfaaDrpLaw0
section
namespace Go.Proofs.Ytclpjlaielphfaa.Pure
open Go Go.RowKit Go.Proofs.YtclpjlaielphfaaW.PrintWords Go.Proofs.YtclpjlaielphfaaW.PrintLast Go.Proofs.YtclpjlaielphfaaW.PrintMore Go.Proofs.Ytclpjlaielphfaa.PF Go.Proofs.Ytclpjlaielphfaa.Flow
set_option linter.unusedVariables false
set_option linter.unusedSimpArgs false
theorem Ev_all (n : Nat) (g : Nat → Nat → Option Bool) (P : Nat → Prop) (e b : Bool) (hb : b = true ↔ (∀ j, j < n → P j) ∧ e = true) (hend : Ev (fun k => g k n) e)
    (hstep : ∀ i, i < n → (∀ j, j < i → P j) → (P i → ∀ r, Ev (fun k => g k (i + 1)) r → Ev (fun k => g k i) r) ∧ (¬ P i → Ev (fun k => g k i) false)) :
    Ev (fun k => g k 0) b := by
  have loop : ∀ (d i : Nat), i + d = n → (∀ j, j < i → P j) → Ev (fun k => g k i) b := by
    intro d
    induction d with
    | zero =>
      intro i hi hj
      obtain rfl : i = n := by omega
      have : b = e := by
        cases e with
        | true => exact hb.2 ⟨hj, rfl⟩
        | false =>
          cases b with
          | false => rfl
          | true => exact absurd (hb.1 rfl).2 (by decide)
      rw [this]
      exact hend
    | succ d ih =>
      intro i hi hj
      obtain ⟨h1, h2⟩ := hstep i (by omega) hj
      by_cases hp : P i
      · refine h1 hp _ (ih (i + 1) (by omega) (fun j h => ?_))
        by_cases hji : j = i
        · rw [hji]; exact hp
        · exact hj j (by omega)
      · have : b = false := by
          cases b with
          | false => rfl
          | true => exact absurd ((hb.1 rfl).1 i (by omega)) hp
        rw [this]
        exact h2 hp
  exact loop n 0 (by omega) (fun j h => by omega)
theorem l1In_ok (a b c : Int) : spec_l1In.f a b c = some (decide (b ≤ a ∧ a ≤ c)) := by
  rw [spec_l1In.f]
  by_cases h : a ≥ b
  · rw [if_pos h]
    congr 1
    by_cases h2 : a ≤ c
    · rw [decide_eq_true h2, decide_eq_true ⟨h, h2⟩]
    · rw [decide_eq_false h2, decide_eq_false (fun h_ => h2 h_.2)]
  · rw [if_neg h, decide_eq_false (fun h_ => h h_.1)]
def RisesAt (lo hi : Int) (l : List Int) (j : Nat) : Prop := lo ≤ rd l (j : Int) ∧ rd l (j : Int) ≤ hi ∧ (0 < j → rd l ((j : Int) - 1) < rd l (j : Int))
structure Rises (lo hi : Int) (l : List Int) : Prop where
  r : ∀ j, j < l.length → RisesAt lo hi l j
open Classical in
theorem l1Rising_ok (l : List Int) (lo hi : Int) (hl : l.length ≤ 4611686018427387904) : Ev (fun k => spec_l1Rising.f k l lo hi) (decide (Rises lo hi l)) := by
  have := Ev_all l.length (fun k i => spec_l1Rising.l0 k l lo hi l (l.length : Int) (i : Int)) (RisesAt lo hi l) true (decide (Rises lo hi l)) ⟨fun h => ⟨(of_decide_eq_true h).r, rfl⟩, fun h => decide_eq_true ⟨h.1⟩⟩
    (Ev.step (f := fun _ => some true) (fun k => by rw [spec_l1Rising.l0, if_neg (by omega)]) (Ev.now _)) (fun i hi_ hj => by
      have eq : ∀ k, spec_l1Rising.l0 (k + 1) l lo hi l (l.length : Int) (i : Int) = if RisesAt lo hi l i then spec_l1Rising.l0 k l lo hi l (l.length : Int) ((i : Int) + 1) else some false := fun k => by
        rw [spec_l1Rising.l0, if_pos (by omega), if_pos (by omega), if_pos (by omega), l1In_ok, Option.bind_some, wrap_id (x := (i : Int) + 1) (by omega) (by omega)]
        by_cases h1 : lo ≤ rd l (i : Int) ∧ rd l (i : Int) ≤ hi
        · rw [decide_eq_true h1, if_pos rfl]
          by_cases h2 : (i : Int) > 0
          · rw [if_pos h2, wrap_id (x := (i : Int) - 1) (by omega) (by omega), if_pos (by omega), if_pos (by omega)]
            by_cases h3 : rd l ((i : Int) - 1) ≥ rd l (i : Int)
            · rw [if_pos h3, if_neg (fun h_ => by have := h_.2.2 (by omega); omega)]
            · rw [if_neg h3, if_pos ⟨h1.1, h1.2, fun _ => by omega⟩]
          · rw [if_neg h2, if_pos ⟨h1.1, h1.2, fun h_ => by omega⟩]
        · rw [decide_eq_false h1, if_neg (by decide), if_neg (fun h_ => h1 ⟨h_.1, h_.2.1⟩)]
      exact ⟨fun hp r hr => Ev.step (f := fun k => spec_l1Rising.l0 k l lo hi l (l.length : Int) ((i : Int) + 1)) (fun k => by rw [eq, if_pos hp]) (by simpa using hr), fun hp => Ev.step (f := fun _ => some false) (fun k => by rw [eq, if_neg hp]) (Ev.now _)⟩)
  exact Ev.congr (fun k => by rw [spec_l1Rising.f]; rfl) this
open Classical in
theorem areBlocks_ok (l : List Int) (n : Int) (hl : l.length ≤ 4611686018427387904) : Ev (fun k => impl_areBlocks.f k l n) (decide (Rises 0 (n - 1) l)) := by
  have := Ev_all l.length (fun k i => impl_areBlocks.l0 k l n l (l.length : Int) (i : Int)) (RisesAt 0 (n - 1) l) true (decide (Rises 0 (n - 1) l)) ⟨fun h => ⟨(of_decide_eq_true h).r, rfl⟩, fun h => decide_eq_true ⟨h.1⟩⟩
    (Ev.step (f := fun _ => some true) (fun k => by rw [impl_areBlocks.l0, if_neg (by omega)]) (Ev.now _)) (fun i hi_ hj => by
      have eq : ∀ k, impl_areBlocks.l0 (k + 1) l n l (l.length : Int) (i : Int) = if RisesAt 0 (n - 1) l i then impl_areBlocks.l0 k l n l (l.length : Int) ((i : Int) + 1) else some false := fun k => by
        rw [impl_areBlocks.l0, if_pos (by omega), if_pos (by omega), if_pos (by omega), wrap_id (x := (i : Int) + 1) (by omega) (by omega)]
        by_cases h1 : rd l (i : Int) < 0
        · rw [if_pos h1, if_neg (fun h_ => by have := h_.1; omega)]
        · rw [if_neg h1]
          by_cases h2 : rd l (i : Int) ≥ n
          · rw [if_pos h2, if_neg (fun h_ => by have := h_.2.1; omega)]
          · rw [if_neg h2]
            by_cases h3 : (i : Int) > 0
            · rw [if_pos h3, wrap_id (x := (i : Int) - 1) (by omega) (by omega), if_pos (by omega), if_pos (by omega)]
              by_cases h4 : rd l (i : Int) ≤ rd l ((i : Int) - 1)
              · rw [if_pos h4, if_neg (fun h_ => by have := h_.2.2 (by omega); omega)]
              · rw [if_neg h4, if_pos ⟨by omega, by omega, fun _ => by omega⟩]
            · rw [if_neg h3, if_pos ⟨by omega, by omega, fun h_ => by omega⟩]
      exact ⟨fun hp r hr => Ev.step (f := fun k => impl_areBlocks.l0 k l n l (l.length : Int) ((i : Int) + 1)) (fun k => by rw [eq, if_pos hp]) (by simpa using hr), fun hp => Ev.step (f := fun _ => some false) (fun k => by rw [eq, if_neg hp]) (Ev.now _)⟩)
  exact Ev.congr (fun k => by rw [impl_areBlocks.f]; rfl) this
structure Arcs (l : List (List Int)) : Prop where
  n1 : 1 ≤ l.length
  n2 : l.length ≤ 120
  r : ∀ j, j < l.length → Rises 0 ((j : Int) - 1) (rd_L1 l (j : Int))
structure Vals (v : List Int) : Prop where
  n1 : 1 ≤ v.length
  n2 : v.length ≤ 120
  r : ∀ j, j < v.length → -1000000 ≤ rd v (j : Int) ∧ rd v (j : Int) ≤ 1000000
structure Valid (l : List (List Int)) (v : List Int) : Prop where
  arcs : Arcs l
  vals : Vals v
  len : v.length = l.length
section
variable (l : List (List Int)) (hl : l.length ≤ 4611686018427387904) (hr : ∀ r, r ∈ l → r.length ≤ 4611686018427387904)
theorem L1_mem {l : List (List Int)} {i : Nat} (h : i < l.length) : rd_L1 l (i : Int) ∈ l := by
  rw [rd_L1, Int.toNat_natCast, List.getD_eq_getElem?_getD, List.getElem?_eq_getElem h, Option.getD_some]
  exact List.getElem_mem _
include hl hr
open Classical in
theorem clArcs_ok : Ev (fun k => spec_clArcs.f k l) (decide (Arcs l)) := by
  have := Ev_all l.length (fun k i => spec_clArcs.l0 k l l (l.length : Int) (i : Int)) (fun j => Rises 0 ((j : Int) - 1) (rd_L1 l (j : Int))) (decide (1 ≤ (l.length : Int) ∧ (l.length : Int) ≤ 120)) (decide (Arcs l)) ⟨fun h => have h := of_decide_eq_true h; ⟨h.r, decide_eq_true ⟨by have := h.n1; omega, by have := h.n2; omega⟩⟩, fun h => have h2 := of_decide_eq_true h.2; decide_eq_true ⟨by omega, by omega, h.1⟩⟩
    (Ev.step (f := fun _ => some (decide (1 ≤ (l.length : Int) ∧ (l.length : Int) ≤ 120))) (fun k => by rw [spec_clArcs.l0, if_neg (by omega), l1In_ok]; rfl) (Ev.now _)) (fun i hi_ hj => by
      have eq : ∀ k, spec_clArcs.l0 (k + 1) l l (l.length : Int) (i : Int) = (spec_l1Rising.f k (rd_L1 l (i : Int)) 0 ((i : Int) - 1)).bind fun t => if t = true then spec_clArcs.l0 k l l (l.length : Int) ((i : Int) + 1) else some false := fun k => by
        rw [spec_clArcs.l0, if_pos (by omega), if_pos (by omega), if_pos (by omega), wrap_id (x := (i : Int) + 1) (by omega) (by omega), wrap_id (x := (i : Int) - 1) (by omega) (by omega)]
      have hR := l1Rising_ok (rd_L1 l (i : Int)) 0 ((i : Int) - 1) (hr _ (L1_mem hi_))
      refine ⟨fun hp r hr => Ev.step eq ?_, fun hp => Ev.step eq ?_⟩
      · rw [decide_eq_true hp] at hR
        exact Ev.bind (f := fun k t => if t = true then spec_clArcs.l0 k l l (l.length : Int) ((i : Int) + 1) else some false) hR (Ev.congr (fun k => if_pos rfl) (by simpa using hr))
      · rw [decide_eq_false hp] at hR
        exact Ev.bind (f := fun k t => if t = true then spec_clArcs.l0 k l l (l.length : Int) ((i : Int) + 1) else some false) hR (Ev.congr (fun k => if_neg (by decide)) (Ev.now _)))
  exact Ev.congr (fun k => by rw [spec_clArcs.f]; rfl) this
open Classical in
theorem AreArcs_ok : Ev (fun k => impl_AreArcs.f k l) (decide (Arcs l)) := by
  have := fun b hb => Ev_all l.length (fun k i => impl_AreArcs.l0 k l (l.length : Int) (i : Int)) (fun j => Rises 0 ((j : Int) - 1) (rd_L1 l (j : Int))) true b hb
    (Ev.step (f := fun _ => some true) (fun k => by rw [impl_AreArcs.l0, if_neg (by omega)]) (Ev.now _)) (fun i hi_ hj => by
      have eq : ∀ k, impl_AreArcs.l0 (k + 1) l (l.length : Int) (i : Int) = (impl_areBlocks.f k (rd_L1 l (i : Int)) (i : Int)).bind fun t => if t = true then impl_AreArcs.l0 k l (l.length : Int) ((i : Int) + 1) else some false := fun k => by
        rw [impl_AreArcs.l0, if_pos (by omega), if_pos (by omega), if_pos (by omega), wrap_id (x := (i : Int) + 1) (by omega) (by omega)]
      have hR := areBlocks_ok (rd_L1 l (i : Int)) (i : Int) (hr _ (L1_mem hi_))
      refine ⟨fun hp r hr => Ev.step eq ?_, fun hp => Ev.step eq ?_⟩
      · rw [decide_eq_true hp] at hR
        exact Ev.bind (f := fun k t => if t = true then impl_AreArcs.l0 k l (l.length : Int) ((i : Int) + 1) else some false) hR (Ev.congr (fun k => if_pos rfl) (by simpa using hr))
      · rw [decide_eq_false hp] at hR
        exact Ev.bind (f := fun k t => if t = true then impl_AreArcs.l0 k l (l.length : Int) ((i : Int) + 1) else some false) hR (Ev.congr (fun k => if_neg (by decide)) (Ev.now _)))
  by_cases h : 1 ≤ l.length ∧ l.length ≤ 120
  · replace this := this (decide (Arcs l)) ⟨fun h_ => ⟨(of_decide_eq_true h_).r, rfl⟩, fun h_ => decide_eq_true ⟨h.1, h.2, h_.1⟩⟩
    refine Ev.congr (f := fun k => impl_AreArcs.j0 k l false) (fun k => ?_) (Ev.step (f := fun k => impl_AreArcs.l0 k l (l.length : Int) 0) (fun k => ?_) this)
    · rw [impl_AreArcs.f, if_neg (by omega), decide_eq_false (by omega)]
    · rw [impl_AreArcs.j0, if_neg (by decide)]
  · rw [decide_eq_false (fun h_ => h ⟨h_.n1, h_.n2⟩)]
    refine Ev.congr (f := fun k => impl_AreArcs.j0 k l true) (fun k => ?_) (Ev.step (f := fun _ => some false) (fun k => ?_) (Ev.now _))
    · rw [impl_AreArcs.f]
      split
      · rfl
      · rw [decide_eq_true (by omega)]
    · rw [impl_AreArcs.j0, if_pos rfl]
end
section
variable (v : List Int) (hl : v.length ≤ 4611686018427387904)
include hl
open Classical in
theorem edValues_ok : Ev (fun k => spec_edValues.f k v) (decide (Vals v)) := by
  have := fun b hb => Ev_all v.length (fun k i => spec_l1All.l0 k (-1000000) 1000000 v (v.length : Int) (i : Int)) (fun j => -1000000 ≤ rd v (j : Int) ∧ rd v (j : Int) ≤ 1000000) true b hb
    (Ev.step (f := fun _ => some true) (fun k => by rw [spec_l1All.l0, if_neg (by omega)]) (Ev.now _)) (fun i hi_ hj => by
      have eq : ∀ k, spec_l1All.l0 (k + 1) (-1000000) 1000000 v (v.length : Int) (i : Int) = if -1000000 ≤ rd v (i : Int) ∧ rd v (i : Int) ≤ 1000000 then spec_l1All.l0 k (-1000000) 1000000 v (v.length : Int) ((i : Int) + 1) else some false := fun k => by
        rw [spec_l1All.l0, if_pos (by omega), if_pos (by omega), if_pos (by omega), l1In_ok, Option.bind_some, wrap_id (x := (i : Int) + 1) (by omega) (by omega)]
        by_cases h1 : -1000000 ≤ rd v (i : Int) ∧ rd v (i : Int) ≤ 1000000
        · rw [decide_eq_true h1, if_pos rfl, if_pos h1]
        · rw [decide_eq_false h1, if_neg (by decide), if_neg h1]
      exact ⟨fun hp r hr => Ev.step (f := fun k => spec_l1All.l0 k (-1000000) 1000000 v (v.length : Int) ((i : Int) + 1)) (fun k => by rw [eq, if_pos hp]) (by simpa using hr), fun hp => Ev.step (f := fun _ => some false) (fun k => by rw [eq, if_neg hp]) (Ev.now _)⟩)
  by_cases h : 1 ≤ (v.length : Int) ∧ (v.length : Int) ≤ 120
  · replace this := this (decide (Vals v)) ⟨fun h_ => ⟨(of_decide_eq_true h_).r, rfl⟩, fun h_ => decide_eq_true ⟨by omega, by omega, h_.1⟩⟩
    refine Ev.congr (f := fun k => spec_l1All.l0 k (-1000000) 1000000 v (v.length : Int) 0) (fun k => ?_) this
    rw [spec_edValues.f, l1In_ok, Option.bind_some, decide_eq_true h, if_pos rfl, spec_l1All.f]
    cases spec_l1All.l0 k (-1000000) 1000000 v (v.length : Int) 0 <;> rfl
  · rw [decide_eq_false (fun h_ => h ⟨by have := h_.n1; omega, by have := h_.n2; omega⟩)]
    refine Ev.congr (f := fun _ => some false) (fun k => ?_) (Ev.now _)
    rw [spec_edValues.f, l1In_ok, Option.bind_some, decide_eq_false h, if_neg (by decide)]
open Classical in
theorem goodValues_ok : Ev (fun k => impl_goodValues.f k v) (decide (Vals v)) := by
  have := fun b hb => Ev_all v.length (fun k i => impl_goodValues.l0 k v (v.length : Int) (i : Int)) (fun j => -1000000 ≤ rd v (j : Int) ∧ rd v (j : Int) ≤ 1000000) true b hb
    (Ev.step (f := fun _ => some true) (fun k => by rw [impl_goodValues.l0, if_neg (by omega)]) (Ev.now _)) (fun i hi_ hj => by
      have eq : ∀ k, impl_goodValues.l0 (k + 1) v (v.length : Int) (i : Int) = if -1000000 ≤ rd v (i : Int) ∧ rd v (i : Int) ≤ 1000000 then impl_goodValues.l0 k v (v.length : Int) ((i : Int) + 1) else some false := fun k => by
        rw [impl_goodValues.l0, if_pos (by omega), if_pos (by omega), if_pos (by omega), wrap_id (x := (i : Int) + 1) (by omega) (by omega)]
        by_cases h1 : rd v (i : Int) < -1000000
        · rw [if_pos h1, if_neg (by omega)]
        · rw [if_neg h1]
          by_cases h2 : rd v (i : Int) > 1000000
          · rw [if_pos h2, if_neg (by omega)]
          · rw [if_neg h2, if_pos (by omega)]
      exact ⟨fun hp r hr => Ev.step (f := fun k => impl_goodValues.l0 k v (v.length : Int) ((i : Int) + 1)) (fun k => by rw [eq, if_pos hp]) (by simpa using hr), fun hp => Ev.step (f := fun _ => some false) (fun k => by rw [eq, if_neg hp]) (Ev.now _)⟩)
  by_cases h : 1 ≤ v.length ∧ v.length ≤ 120
  · replace this := this (decide (Vals v)) ⟨fun h_ => ⟨(of_decide_eq_true h_).r, rfl⟩, fun h_ => decide_eq_true ⟨h.1, h.2, h_.1⟩⟩
    refine Ev.congr (f := fun k => impl_goodValues.j0 k v false) (fun k => ?_) (Ev.step (f := fun k => impl_goodValues.l0 k v (v.length : Int) 0) (fun k => ?_) this)
    · rw [impl_goodValues.f, if_neg (by omega), decide_eq_false (by omega)]
    · rw [impl_goodValues.j0, if_neg (by decide)]
  · rw [decide_eq_false (fun h_ => h ⟨h_.n1, h_.n2⟩)]
    refine Ev.congr (f := fun k => impl_goodValues.j0 k v true) (fun k => ?_) (Ev.step (f := fun _ => some false) (fun k => ?_) (Ev.now _))
    · rw [impl_goodValues.f]
      split
      · rfl
      · rw [decide_eq_true (by omega)]
    · rw [impl_goodValues.j0, if_pos rfl]
end
section
variable (l : List (List Int)) (v : List Int) (hl : l.length ≤ 4611686018427387904) (hr : ∀ r, r ∈ l → r.length ≤ 4611686018427387904) (hv : v.length ≤ 4611686018427387904)
include hl hr hv
open Classical in
theorem areValued_ok : Ev (fun k => impl_areValued.f k l v) (decide (Valid l v)) := by
  have h1 := AreArcs_ok l hl hr
  have h2 := goodValues_ok v hv
  by_cases ha : Arcs l
  · rw [decide_eq_true ha] at h1
    refine Ev.bind (f := fun k t => if t = true then (impl_goodValues.f k v).bind fun t190 => if t190 = true then some ((v.length : Int) == (l.length : Int)) else some false else some false) h1 (Ev.congr (fun k => if_pos rfl) ?_)
    by_cases hvv : Vals v
    · rw [decide_eq_true hvv] at h2
      refine Ev.bind (f := fun k t => if t = true then some ((v.length : Int) == (l.length : Int)) else some false) h2 (Ev.congr (f := fun _ => some (decide (Valid l v))) (fun k => ?_) (Ev.now _))
      rw [if_pos rfl]
      congr 1
      by_cases he : v.length = l.length
      · rw [decide_eq_true ⟨ha, hvv, he⟩, beq_iff_eq]; omega
      · rw [decide_eq_false (fun h_ => he h_.len)]; exact beq_eq_false_iff_ne.2 (by omega)
    · rw [decide_eq_false hvv] at h2
      rw [decide_eq_false (fun h_ => hvv h_.vals)]
      exact Ev.bind (f := fun k t => if t = true then some ((v.length : Int) == (l.length : Int)) else some false) h2 (Ev.congr (fun k => if_neg (by decide)) (Ev.now _))
  · rw [decide_eq_false ha] at h1
    rw [decide_eq_false (fun h_ => ha h_.arcs)]
    exact Ev.bind (f := fun k t => if t = true then (impl_goodValues.f k v).bind fun t190 => if t190 = true then some ((v.length : Int) == (l.length : Int)) else some false else some false) h1 (Ev.congr (fun k => if_neg (by decide)) (Ev.now _))
open Classical in
theorem edBoth_ok : Ev (fun k => spec_edBoth.f k l v) (decide (Valid l v)) := by
  have h1 := clArcs_ok l hl hr
  have h2 := edValues_ok v hv
  by_cases ha : Arcs l
  · rw [decide_eq_true ha] at h1
    refine Ev.bind (f := fun k t => if t = true then (if (v.length : Int) = (l.length : Int) then (spec_edValues.f k v).bind fun t116 => some t116 else some false) else some false) h1 (Ev.congr (fun k => if_pos rfl) ?_)
    by_cases he : v.length = l.length
    · refine Ev.congr (fun k => if_pos (by omega)) ?_
      refine Ev.bind (f := fun _ t => some t) h2 (Ev.congr (f := fun _ => some (decide (Valid l v))) (fun k => ?_) (Ev.now _))
      congr 1
      exact decide_eq_decide.2 ⟨fun h_ => ⟨ha, h_, he⟩, fun h_ => h_.vals⟩
    · rw [decide_eq_false (fun h_ => he h_.len)]
      exact Ev.congr (fun k => if_neg (by omega)) (Ev.now _)
  · rw [decide_eq_false ha] at h1
    rw [decide_eq_false (fun h_ => ha h_.arcs)]
    exact Ev.bind (f := fun k t => if t = true then (if (v.length : Int) = (l.length : Int) then (spec_edValues.f k v).bind fun t116 => some t116 else some false) else some false) h1 (Ev.congr (fun k => if_neg (by decide)) (Ev.now _))
end
structure EditAt (n : Nat) (l : List S130) (j : Nat) : Prop where
  b0 : 0 ≤ (rd_T130 l (j : Int)).f0
  b1 : (rd_T130 l (j : Int)).f0 < (n : Int)
  inc : 0 < j → (rd_T130 l ((j : Int) - 1)).f0 < (rd_T130 l (j : Int)).f0
  v0 : -1000000 ≤ (rd_T130 l (j : Int)).f1
  v1 : (rd_T130 l (j : Int)).f1 ≤ 1000000
structure Edits (n : Nat) (l : List S130) : Prop where
  few : l.length ≤ 20
  r : ∀ j, j < l.length → EditAt n l j
end Go.Proofs.Ytclpjlaielphfaa.Pure
end
