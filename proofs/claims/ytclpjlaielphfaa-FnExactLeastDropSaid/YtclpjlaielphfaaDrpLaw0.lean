/- Used by the claim's last text. -/
import Derived.Test.YtclpjlaielphfaaDrpFlowQ
import Derived.Test.YtclpjlaielphfaaDrpPFx0
import Derived.Test.YtclpjlaielphfaaDrpPFx1
import Derived.Test.YtclpjlaielphfaaDrpPFx4
import Derived.Test.YtclpjlaielphfaaDrpPFx5
import Derived.Test.YtclpjlaielphfaaDrpPFx6
import Derived.Test.YtclpjlaielphfaaDrpPFx9
import Derived.Test.YtclpjlaielphfaaDrpPFx2
import Derived.Test.YtclpjlaielphfaaDrpPFx8
import Derived.Test.YtclpjlaielphfaaDrpPit
import Derived.Test.YtclpjlaielphfaaDrpNe
section
namespace Go.Proofs.Ytclpjlaielphfaa.Pure
open Go Go.RowKit Go.Proofs.YtclpjlaielphfaaW.PrintWords Go.Proofs.YtclpjlaielphfaaW.PrintLast Go.Proofs.YtclpjlaielphfaaW.PrintMore Go.Proofs.Ytclpjlaielphfaa.PF Go.Proofs.Ytclpjlaielphfaa.Flow
set_option linter.unusedVariables false
set_option linter.unusedSimpArgs false
theorem Ev.unique {α : Type} {g : Nat → Option α} {a b : α} (h : Ev g a) (k : Ev g b) : a = b := by
  obtain ⟨K, hK⟩ := h
  obtain ⟨J, hJ⟩ := k
  have h1 := hK (max K J) (Nat.le_max_left _ _)
  have h2 := hJ (max K J) (Nat.le_max_right _ _)
  rw [h1] at h2
  exact Option.some.inj h2
theorem eqIntS_refl (l : List Int) (hl : l.length ≤ 4611686018427387904) : Ev (fun k => laws_eqIntS.f k l l) true := by
  have loop : ∀ (d : Nat) (i : Int), 0 ≤ i → i + d = (l.length : Int) → Ev (fun k => laws_eqIntS.l0 k l l i) true := by
    intro d
    induction d with
    | zero =>
      intro i h0 h1
      refine Ev.step (f := fun _ => some true) (fun k => ?_) (Ev.now _)
      rw [laws_eqIntS.l0, if_neg (by omega)]
    | succ d ih =>
      intro i h0 h1
      refine Ev.step (f := fun k => laws_eqIntS.l0 k l l (i + 1)) (fun k => ?_) (ih (i + 1) (by omega) (by omega))
      rw [laws_eqIntS.l0, if_pos (by omega), if_pos h0, if_pos (by omega), if_pos rfl, wrap_id (by omega) (by omega)]
  refine Ev.congr (f := fun k => laws_eqIntS.l0 k l l 0) (fun k => ?_) (loop l.length 0 (by omega) (by omega))
  rw [laws_eqIntS.f, if_pos rfl]
theorem eqIntSS_refl (l : List (List Int)) (hl : l.length ≤ 4611686018427387904) (hr : ∀ r, r ∈ l → r.length ≤ 4611686018427387904) : Ev (fun k => laws_eqIntSS.f k l l) true := by
  have loop : ∀ (d : Nat) (i : Int), 0 ≤ i → i + d = (l.length : Int) → Ev (fun k => laws_eqIntSS.l0 k l l i) true := by
    intro d
    induction d with
    | zero =>
      intro i h0 h1
      refine Ev.step (f := fun _ => some true) (fun k => ?_) (Ev.now _)
      rw [laws_eqIntSS.l0, if_neg (by omega)]
    | succ d ih =>
      intro i h0 h1
      have hm : rd_L1 l i ∈ l := by
        rw [rd_L1, List.getD_eq_getElem?_getD, List.getElem?_eq_getElem (by omega), Option.getD_some]
        exact List.getElem_mem _
      refine Ev.step (f := fun k => (laws_eqIntS.f k (rd_L1 l i) (rd_L1 l i)).bind fun t => if t = true then laws_eqIntSS.l0 k l l (i + 1) else some false) (fun k => ?_)
        (Ev.bind (f := fun k t => if t = true then laws_eqIntSS.l0 k l l (i + 1) else some false) (eqIntS_refl _ (hr _ hm)) (Ev.congr (fun k => if_pos rfl) (ih (i + 1) (by omega) (by omega))))
      rw [laws_eqIntSS.l0, if_pos (by omega), if_pos h0, if_pos (by omega), wrap_id (x := i + 1) (by omega) (by omega)]
  refine Ev.congr (f := fun k => laws_eqIntSS.l0 k l l 0) (fun k => ?_) (loop l.length 0 (by omega) (by omega))
  rw [laws_eqIntSS.f, if_pos rfl]
theorem take_set {α : Type} (l x : List α) (i : Nat) (v : α) (hi : i < x.length) (hv : l[i]? = some v) (h : x.take i = l.take i) : (x.set i v).take (i + 1) = l.take (i + 1) := by
  rw [List.take_add_one, List.take_add_one, List.take_set_of_le (Nat.le_refl _), h, hv, List.getElem?_set_self hi]
theorem toIntS_ok (l : List Int) (hl : l.length ≤ 35184372088832) : Ev (fun k => laws_toIntS.f k l) l := by
  have loop : ∀ (d : Nat) (i : Int) (x : List Int), 0 ≤ i → i + d = (l.length : Int) → x.length = l.length → x.take i.toNat = l.take i.toNat → Ev (fun k => laws_toIntS.l0 k l x i) l := by
    intro d
    induction d with
    | zero =>
      intro i x h0 h1 hx ht
      refine Ev.step (f := fun _ => some l) (fun k => ?_) (Ev.now _)
      rw [laws_toIntS.l0, if_neg (by omega)]
      rw [List.take_of_length_le (by omega), List.take_of_length_le (by omega)] at ht
      rw [ht]
    | succ d ih =>
      intro i x h0 h1 hx ht
      refine Ev.step (f := fun k => laws_toIntS.l0 k l (x.set i.toNat (rd l i)) (i + 1)) (fun k => ?_) (ih (i + 1) _ (by omega) (by omega) (by simp [hx]) ?_)
      · rw [laws_toIntS.l0, if_pos (by omega), if_pos h0, if_pos (by omega), wrap_id (by omega) (by omega)]
      · rw [show (i + 1).toNat = i.toNat + 1 by omega]
        refine take_set l x i.toNat _ (by omega) ?_ ht
        rw [rd, List.getD_eq_getElem?_getD, List.getElem?_eq_getElem (by omega), Option.getD_some]
  refine Ev.congr (f := fun k => laws_toIntS.l0 k l (List.replicate l.length 0) 0) (fun k => ?_) (loop l.length 0 _ (by omega) (by omega) (by simp) (by simp))
  rw [laws_toIntS.f, if_pos (by omega), if_pos (by simpa using hl)]
  simp
theorem toIntSS_ok (l : List (List Int)) (hl : l.length ≤ 11728124029610) (hr : ∀ r, r ∈ l → r.length ≤ 35184372088832) : Ev (fun k => laws_toIntSS.f k l) l := by
  have loop : ∀ (d : Nat) (i : Int) (x : List (List Int)), 0 ≤ i → i + d = (l.length : Int) → x.length = l.length → x.take i.toNat = l.take i.toNat → Ev (fun k => laws_toIntSS.l0 k l x i) l := by
    intro d
    induction d with
    | zero =>
      intro i x h0 h1 hx ht
      refine Ev.step (f := fun _ => some l) (fun k => ?_) (Ev.now _)
      rw [laws_toIntSS.l0, if_neg (by omega)]
      rw [List.take_of_length_le (by omega), List.take_of_length_le (by omega)] at ht
      rw [ht]
    | succ d ih =>
      intro i x h0 h1 hx ht
      have hg : l[i.toNat]? = some (rd_L1 l i) := by rw [rd_L1, List.getD_eq_getElem?_getD, List.getElem?_eq_getElem (by omega), Option.getD_some]
      have hm : rd_L1 l i ∈ l := List.mem_of_getElem? hg
      refine Ev.step (f := fun k => (laws_toIntS.f k (rd_L1 l i)).bind fun t => laws_toIntSS.l0 k l (x.set i.toNat t) (i + 1)) (fun k => ?_)
        (Ev.bind (f := fun k t => laws_toIntSS.l0 k l (x.set i.toNat t) (i + 1)) (toIntS_ok _ (hr _ hm)) (ih (i + 1) _ (by omega) (by omega) (by simp [hx]) ?_))
      · rw [laws_toIntSS.l0, if_pos (by omega), if_pos h0, wrap_id (x := i + 1) (by omega) (by omega)]
        congr 1
        funext t
        rw [if_pos (by omega)]
      · rw [show (i + 1).toNat = i.toNat + 1 by omega]
        exact take_set l x i.toNat _ (by omega) hg ht
  refine Ev.congr (f := fun k => laws_toIntSS.l0 k l (List.replicate l.length []) 0) (fun k => ?_) (loop l.length 0 _ (by omega) (by omega) (by simp) (by simp))
  rw [laws_toIntSS.f, if_pos (by omega), if_pos (by simpa using hl)]
  simp
def tot (l : List (List Int)) : Nat := (l.map List.length).sum
theorem szIntSS_ok (l : List (List Int)) (a : Int) (ha : 0 ≤ a) (ha2 : a ≤ 1048576) (hl : l.length ≤ maxLen) (hr : ∀ r, r ∈ l → r.length ≤ maxLen) :
    ∃ r, Ev (fun k => laws_szIntSS.f k l a) r ∧ r ≤ a ∧ (0 ≤ r → (l.length : Int) + (tot l : Int) ≤ 1048576) := by
  have hmx : maxLen = 9223372036854775807 := rfl
  have loop : ∀ (d : Nat) (i b : Int), 0 ≤ i → i + d = (l.length : Int) → 0 ≤ b → b ≤ 1048576 → (l.length : Int) ≤ 1048576 → b + (tot (l.take i.toNat) : Int) + (l.length : Int) ≤ a →
      ∃ r, Ev (fun k => laws_szIntSS.l0 k l b i) r ∧ r ≤ a ∧ (0 ≤ r → (l.length : Int) + (tot l : Int) ≤ a) := by
    intro d
    induction d with
    | zero =>
      intro i b h0 h1 hb hb2 hl2 ht
      refine ⟨b, Ev.step (f := fun _ => some b) (fun k => ?_) (Ev.now _), by omega, fun _ => ?_⟩
      · rw [laws_szIntSS.l0, if_neg (by omega)]
      · rw [List.take_of_length_le (by omega)] at ht
        omega
    | succ d ih =>
      intro i b h0 h1 hb hb2 hl2 ht
      have hg : l[i.toNat]? = some (rd_L1 l i) := by rw [rd_L1, List.getD_eq_getElem?_getD, List.getElem?_eq_getElem (by omega), Option.getD_some]
      have hm := hr _ (List.mem_of_getElem? hg)
      have hw : wrap64 (b - ((rd_L1 l i).length : Int)) = b - ((rd_L1 l i).length : Int) := wrap_id (by omega) (by omega)
      have htt : tot (l.take (i + 1).toNat) = tot (l.take i.toNat) + (rd_L1 l i).length := by
        rw [show (i + 1).toNat = i.toNat + 1 by omega, List.take_add_one, hg]
        simp [tot]
      by_cases hn : b - ((rd_L1 l i).length : Int) < 0
      · refine ⟨-1, Ev.step (f := fun _ => some (-1)) (fun k => ?_) (Ev.now _), by omega, fun h => by omega⟩
        rw [laws_szIntSS.l0, if_pos (by omega), if_pos h0, laws_szIntS.f, hw, if_pos hn]
        simp
      · obtain ⟨r, hr1, hr2, hr3⟩ := ih (i + 1) (b - ((rd_L1 l i).length : Int)) (by omega) (by omega) (by omega) (by omega) hl2 (by rw [htt]; omega)
        refine ⟨r, Ev.step (f := fun k => laws_szIntSS.l0 k l (b - ((rd_L1 l i).length : Int)) (i + 1)) (fun k => ?_) hr1, hr2, hr3⟩
        rw [laws_szIntSS.l0, if_pos (by omega), if_pos h0, laws_szIntS.f, hw, if_neg hn, Option.bind_some, if_neg hn, wrap_id (x := i + 1) (by omega) (by omega)]
  have hw : wrap64 (a - (l.length : Int)) = a - (l.length : Int) := wrap_id (by omega) (by omega)
  by_cases hn : a - (l.length : Int) < 0
  · refine ⟨-1, Ev.congr (f := fun _ => some (-1)) (fun k => ?_) (Ev.now _), by omega, fun h => by omega⟩
    rw [laws_szIntSS.f, hw, if_pos hn]
  · obtain ⟨r, h1, h2, h3⟩ := loop l.length 0 (a - (l.length : Int)) (by omega) (by omega) (by omega) (by omega) (by omega) (by simp [tot])
    refine ⟨r, Ev.congr (f := fun k => laws_szIntSS.l0 k l (a - (l.length : Int)) 0) (fun k => ?_) h1, h2, fun h => by have := h3 h; omega⟩
    rw [laws_szIntSS.f, hw, if_neg hn]
theorem row_le {l : List (List Int)} {r : List Int} (h : r ∈ l) : r.length ≤ tot l := by
  induction l with
  | nil => cases h
  | cons x l ih =>
    have e : tot (x :: l) = x.length + tot l := by simp [tot]
    rw [e]
    rcases List.mem_cons.1 h with h | h
    · subst h; omega
    · have := ih h; omega
end Go.Proofs.Ytclpjlaielphfaa.Pure
end
