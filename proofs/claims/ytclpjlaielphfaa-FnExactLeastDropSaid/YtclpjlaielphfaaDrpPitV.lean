/- Used by the claim's last text. -/
import Derived.Test.YtclpjlaielphfaaDrpPitU
import Derived.Test.YtclpjlaielphfaaDrpPFx0
import Derived.Test.YtclpjlaielphfaaDrpPFx4
import Derived.Test.YtclpjlaielphfaaDrpPFx6
import Derived.Test.YtclpjlaielphfaaDrpPFx8
import Derived.Test.YtclpjlaielphfaaDrpPFx1
import Derived.Test.YtclpjlaielphfaaDrpPFx2
import Derived.Test.YtclpjlaielphfaaDrpPFx5
import Derived.Test.YtclpjlaielphfaaDrpPFx9
import Derived.Test.YtclpjlaielphfaaDrpPit
import Derived.Test.YtclpjlaielphfaaDrpNe
section
namespace Go.Proofs.Ytclpjlaielphfaa.Pure
open Go Go.RowKit Go.Proofs.YtclpjlaielphfaaW.PrintWords Go.Proofs.YtclpjlaielphfaaW.PrintLast Go.Proofs.YtclpjlaielphfaaW.PrintMore Go.Proofs.Ytclpjlaielphfaa.PF Go.Proofs.Ytclpjlaielphfaa.Flow
set_option linter.unusedVariables false
set_option linter.unusedSimpArgs false
theorem paOf_ok (xs : List Int) (hl : xs.length ≤ 1000) (hx : ∀ x, x ∈ xs → -1000000 ≤ x ∧ x ≤ 1000000) : Ev (fun k => spec_paOf.f k (0 :: xs)) (xs.map fun x => x - 1) := by
  have loop : ∀ (d : Nat) (j : Int) (acc : List Int), 0 ≤ j → j + d = (xs.length : Int) → acc.length + d ≤ 100000 → Ev (fun k => spec_paOf.l0 k acc xs (xs.length : Int) j) (acc ++ (xs.drop j.toNat).map fun x => x - 1) := by
    intro d
    induction d with
    | zero =>
      intro j acc h0 h1 ha
      refine Ev.step (f := fun _ => some (acc ++ (xs.drop j.toNat).map fun x => x - 1)) (fun k => ?_) (Ev.now _)
      rw [spec_paOf.l0, if_neg (by omega), List.drop_eq_nil_of_le (by omega), List.map_nil, List.append_nil]
    | succ d ih =>
      intro j acc h0 h1 ha
      have hg := rd_get xs j h0 (by omega)
      have hm := hx _ (List.mem_of_getElem? hg)
      have h_ := ih (j + 1) (acc ++ [rd xs j - 1]) (by omega) (by omega) (by simp; omega)
      rw [map_ext_drop xs _ j.toNat (by omega) _ hg]
      rw [show (j + 1).toNat = j.toNat + 1 by omega, List.append_assoc] at h_
      refine Ev.step (fun k => ?_) h_
      rw [spec_paOf.l0, if_pos (by omega), if_pos h0, if_pos (by omega), if_pos (by omega), wrap_id (x := rd xs j - 1) (by omega) (by omega), wrap_id (x := j + 1) (by omega) (by omega)]
  have := loop xs.length 0 [] (by omega) (by omega) (by simp; omega)
  refine Ev.congr (fun k => ?_) this
  rw [spec_paOf.f, if_pos (by simp only [List.length_cons]; omega)]
  rfl
theorem Ev.of_rounds {α : Type} {g : Nat → Option α} {r : α} (hg : ∀ k, LeO (g k) (g (k + 1))) (h : ∃ k, g k = some r) : Ev g r := by
  obtain ⟨k, hk⟩ := h
  exact Ev.of hg hk
section
variable {l : List (List Int)} {v : List Int} (hA : Arcs l) (hv : v.length = l.length) (hb : ∀ j : Nat, j < v.length → -1000000000 ≤ rd v (j : Int) ∧ rd v (j : Int) ≤ 1000000)
include hA hv hb
theorem paFind_ok {B : List Bool} (hB : BestP l v B) : Ev (fun k => spec_paFind.f k l v) (onL 0 B) := by
  obtain ⟨E, tt, left, s, left', I, V, B', f1, f2, f3, f4, f5, f6, f7, f8⟩ := pit_ok hA hv hb
  obtain rfl := BestP.unique hB f8
  have hn2 := hA.n2
  have hBl := hB.len
  have e1 := paEdges_ok hA hv (fun j hj => by have := hb j hj; omega)
  have e2 : Ev (fun k => spec_mfLeast.f k ((l.length : Int) + 2) (pe l.length 0 l v)) (0 :: onL 1 B) := by
    have h1 : Ev (fun k => runS E tt k 0 left) (s, left') := Ev.of_rounds (fun k => runS_mono _ _ _ _ _) f3
    have h2 : Ev (fun k => lv k E tt left') (sp I V) := Ev.of_rounds (fun k => fun _ h => lv_mono h) f5
    refine Ev.congr (fun k => ?_) (Ev.bind (f := fun k (r : Int × List Int) => (lv k E tt r.2).bind fun V => some (lvOuts 0 V)) h1 (Ev.bind (f := fun _ V => some (lvOuts 0 V)) h2 (Ev.congr (fun _ => by rw [f7]) (Ev.now _))))
    show leastF k ((l.length : Int) + 2) (pe l.length 0 l v) = _
    unfold leastF
    rw [if_pos (by omega), show ((l.length : Int) + 2).toNat = l.length + 2 by omega, f1, Option.bind_some]
  have e3 := paOf_ok (onL 1 B) (by have := onL_len B 1; omega) (fun x hx => by have := onL_bound B 1 x hx; omega)
  rw [show (onL 1 B).map (fun x => x - 1) = onL 0 B from onL_shift B 0] at e3
  have e4 : wrap64 ((l.length : Int) + 2) = (l.length : Int) + 2 := wrap_id (by omega) (by omega)
  refine Ev.congr (fun k => ?_) (Ev.bind (f := fun k t => (spec_mfLeast.f k ((l.length : Int) + 2) t).bind fun t145 => (spec_paOf.f k t145).bind fun t148 => some t148) e1
    (Ev.bind (f := fun k t145 => (spec_paOf.f k t145).bind fun t148 => some t148) e2 (Ev.bind (f := fun _ t148 => some t148) e3 (Ev.now _))))
  rw [spec_paFind.f, e4]
end
theorem free_rd (W X : List Bool) (v : List Int) (j : Nat) (hj : j < v.length) : rd (freeL W X v) (j : Int) = freeAt W X j (rd v (j : Int)) := by
  rw [rd_nat _ j (by rw [freeL_len]; exact hj), rd_nat v j hj]
  simp [freeL]
theorem bestPit_ok {l : List (List Int)} {v : List Int} (W X : List Bool) (hA : Arcs l) (hv : v.length = l.length) (hb : ∀ j : Nat, j < v.length → -1000000000 ≤ rd v (j : Int) ∧ rd v (j : Int) ≤ 1000000)
    (hW : W = [] ∨ W.length = l.length) (hX : X = [] ∨ X.length = l.length) : ∃ B, BestP l (freeL W X v) B ∧ Ev (fun k => impl_bestPit.f k l v W X false) (outL W B) := by
  have hn2 := hA.n2
  have hn1 := hA.n1
  have hv' : (freeL W X v).length = l.length := by rw [freeL_len]; exact hv
  have hb' : ∀ j : Nat, j < (freeL W X v).length → -1000000000 ≤ rd (freeL W X v) (j : Int) ∧ rd (freeL W X v) (j : Int) ≤ 1000000 := fun j hj => by
    rw [freeL_len] at hj
    rw [free_rd W X v j hj]
    have := hb j hj
    unfold freeAt
    split
    · omega
    · split <;> omega
  obtain ⟨E, tt, left, s, left', I, V, B, f1, f2, f3, f4, f5, f6, f7, f8⟩ := pit_ok hA hv' hb'
  refine ⟨B, f8, ?_⟩
  have e1 := pitNetwork_ok hA hv' (fun j hj => by have := hb' j hj; omega)
  have h1 : Ev (fun k => runI E tt k 0 left) (s, left') := Ev.of_rounds (fun k => runI_mono _ _ _ _ _) f2
  have h2 : Ev (fun k => fs k E tt left') (I, V) := Ev.of_rounds (fun k => fun _ h => fs_mono h) f4
  refine Ev.congr (fun k => ?_) (Ev.bind (f := fun k (p : Int × List S170) => if 2 ≤ p.1 ∧ p.1 ≤ 1000000 ∧ (W = [] ∨ p.1 - 2 ≤ (W.length : Int)) then (net p.1.toNat p.2).bind fun s => (runI s.1 s.2.1 k 0 s.2.2).bind fun r => (fs k s.1 s.2.1 r.2).bind fun m => some (outL W ((m.1.drop 1).take (p.1.toNat - 2))) else none) e1 ?_)
  · show bestF k l v W X false = _
    unfold bestF
    rw [if_pos ⟨rfl, by omega, hW.imp id (fun h => by omega), hX.imp id (fun h => by omega)⟩]
  · refine Ev.congr (fun k => ?_) (Ev.bind (f := fun k (r : Int × List Int) => (fs k E tt r.2).bind fun m => some (outL W ((m.1.drop 1).take l.length))) h1 (Ev.bind (f := fun _ (m : List Bool × List Int) => some (outL W ((m.1.drop 1).take l.length))) h2 (Ev.congr (fun _ => by rw [f6]) (Ev.now _))))
    simp only []
    rw [if_pos ⟨by omega, by omega, hW.imp id (fun h => by omega)⟩, show ((l.length : Int) + 2).toNat = l.length + 2 by omega, f1, Option.bind_some, Nat.add_sub_cancel]
theorem outL_nil (B : List Bool) : outL [] B = B := by
  apply List.ext_getElem
  · simp [outL]
  · intro i h1 h2; simp [outL]
theorem freeL_nil (v : List Int) : freeL [] [] v = v := by
  apply List.ext_getElem
  · simp [freeL]
  · intro i h1 h2; simp [freeL, freeAt]
theorem listOf_ok (B : List Bool) (hl : B.length ≤ 1000) : Ev (fun k => impl_listOf.f k B) (onL 0 B) := by
  have loop : ∀ (d j : Nat) (acc : List Int), j + d = B.length → acc.length ≤ j → Ev (fun k => impl_listOf.l0 k acc B (B.length : Int) (j : Int)) (acc ++ onL (j : Int) (B.drop j)) := by
    intro d
    induction d with
    | zero =>
      intro j acc h1 ha
      refine Ev.step (f := fun _ => some (acc ++ onL (j : Int) (B.drop j))) (fun k => ?_) (Ev.now _)
      rw [impl_listOf.l0, if_neg (by omega), List.drop_eq_nil_of_le (by omega), onL, List.append_nil]
    | succ d ih =>
      intro j acc h1 ha
      have hj : j < B.length := by omega
      have hr : rdOf false B (j : Int) = B[j] := by
        rw [rdOf, Int.toNat_natCast, List.getD_eq_getElem?_getD, List.getElem?_eq_getElem hj, Option.getD_some]
      have hd : B.drop j = B[j] :: B.drop (j + 1) := List.drop_eq_getElem_cons hj
      rw [hd, onL]
      have hj1 : (j : Int) + 1 = ((j + 1 : Nat) : Int) := by omega
      by_cases hB : B[j] = true
      · rw [if_pos hB]
        have h_ := ih (j + 1) (acc ++ [(j : Int)]) (by omega) (by simp; omega)
        rw [List.append_assoc] at h_
        refine Ev.step (fun k => ?_) (by rw [hj1]; exact h_)
        rw [impl_listOf.l0, if_pos (by omega), if_pos (by omega), if_pos (by omega), hr, if_pos hB, if_pos (by omega), wrap_id (x := (j : Int) + 1) (by omega) (by omega), hj1]
      · rw [if_neg hB]
        refine Ev.step (fun k => ?_) (by rw [hj1]; exact ih (j + 1) acc (by omega) (by omega))
        rw [impl_listOf.l0, if_pos (by omega), if_pos (by omega), if_pos (by omega), hr, if_neg hB, wrap_id (x := (j : Int) + 1) (by omega) (by omega), hj1]
  have := loop B.length 0 [] (by omega) (by simp)
  exact Ev.congr (fun k => by rw [impl_listOf.f]; rfl) this
def sumAt (v : List Int) : List Int → Int
  | [] => 0
  | x :: xs => rd v x + sumAt v xs
theorem sumAt_onL : ∀ (B : List Bool) (v V : List Int) (i : Nat) (P : Nat → Bool), V.drop i = v → B.length = v.length → (∀ m, m < B.length → P (i + m) = bt_ B m) → sumAt V (onL (i : Int) B) = valP P i v
  | [], [], V, i, P, _, _, _ => rfl
  | b :: B, x :: v, V, i, P, hd, hl, hp => by
    have hi : i < V.length := by
      rcases Nat.lt_or_ge i V.length with h | h
      · exact h
      · rw [List.drop_eq_nil_of_le h] at hd; cases hd
    rw [List.drop_eq_getElem_cons hi] at hd
    injection hd with hd1 hd2
    have ih := sumAt_onL B v V (i + 1) P hd2 (by simpa using hl) (fun m hm => by
      have := hp (m + 1) (by simpa using hm)
      rw [show i + 1 + m = i + (m + 1) by omega, this]
      simp [bt_])
    have h0 : P i = b := by have := hp 0 (by simp); simpa [bt_] using this
    rw [show ((i + 1 : Nat) : Int) = (i : Int) + 1 by omega] at ih
    simp only [onL, valP, h0]
    cases b
    · simp [ih]
    · simp [sumAt, ih, rd_nat V i hi, hd1]
  | [], _ :: _, _, _, _, _, h, _ => by simp at h
  | _ :: _, [], _, _, _, _, h, _ => by simp at h
theorem sumAt_all (B : List Bool) (v : List Int) (h : B.length = v.length) : sumAt v (onL 0 B) = valP (bt_ B) 0 v := sumAt_onL B v v 0 (bt_ B) rfl h (fun m _ => by rw [Nat.zero_add])
theorem valP_bound (P : Nat → Bool) : ∀ (v : List Int) (i : Nat), (∀ x, x ∈ v → -1000000 ≤ x ∧ x ≤ 1000000) → -1000000 * (v.length : Int) ≤ valP P i v ∧ valP P i v ≤ 1000000 * (v.length : Int)
  | [], _, _ => by simp [valP]
  | x :: v, i, h => by
    have h1 := valP_bound P v (i + 1) (fun y hy => h y (List.mem_cons_of_mem _ hy))
    have h2 := h x (List.mem_cons_self ..)
    simp only [valP, List.length_cons]
    split <;> omega
section
variable {v : List Int} (hV : Vals v)
include hV
theorem Vals.mem : ∀ x, x ∈ v → -1000000 ≤ x ∧ x ≤ 1000000 := fun x hx => by
  obtain ⟨i, hi, e⟩ := mem_val hx
  rw [← e]
  exact hV.r i hi
theorem valueSum_ok {B : List Bool} (hB : B.length = v.length) : Ev (fun k => impl_valueSum.f k v (onL 0 B)) (valP (bt_ B) 0 v) := by
  have hn2 := hV.n2
  have hlen := onL_len B 0
  have loop : ∀ (d j : Nat) (acc : Int), j + d = (onL 0 B).length → -1000000 * (j : Int) ≤ acc → acc ≤ 1000000 * (j : Int) → Ev (fun k => impl_valueSum.l0 k v acc (onL 0 B) ((onL 0 B).length : Int) (j : Int)) (acc + sumAt v ((onL 0 B).drop j)) := by
    intro d
    induction d with
    | zero =>
      intro j acc h1 ha hb
      refine Ev.step (f := fun _ => some (acc + sumAt v ((onL 0 B).drop j))) (fun k => ?_) (Ev.now _)
      rw [impl_valueSum.l0, if_neg (by omega), List.drop_eq_nil_of_le (by omega), sumAt, Int.add_zero]
    | succ d ih =>
      intro j acc h1 ha hb
      have hj : j < (onL 0 B).length := by omega
      have hr : rd (onL 0 B) (j : Int) = (onL 0 B)[j] := rd_nat _ j hj
      have hm := onL_bound B 0 _ (List.getElem_mem hj)
      have hx := hV.r ((onL 0 B)[j]).toNat (by omega)
      rw [Int.toNat_of_nonneg hm.1] at hx
      rw [List.drop_eq_getElem_cons hj, sumAt, ← Int.add_assoc]
      have hj1 : (j : Int) + 1 = ((j + 1 : Nat) : Int) := by omega
      refine Ev.step (fun k => ?_) (ih (j + 1) (acc + rd v (onL 0 B)[j]) (by omega) (by omega) (by omega))
      rw [impl_valueSum.l0, if_pos (by omega), if_pos (by omega), if_pos (by omega), hr, if_pos hm.1, if_pos (by omega), wrap_id (x := acc + rd v (onL 0 B)[j]) (by omega) (by omega), wrap_id (x := (j : Int) + 1) (by omega) (by omega), hj1]
  have := loop (onL 0 B).length 0 0 (by omega) (by simp) (by simp)
  rw [List.drop_zero, Int.zero_add, sumAt_all B v hB] at this
  exact Ev.congr (fun k => by rw [impl_valueSum.f]; rfl) this
end
end Go.Proofs.Ytclpjlaielphfaa.Pure
end
