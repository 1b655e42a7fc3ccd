/- Used by the claim's last text. -/
import Derived.Test.YtclpjlaielphfaaChgPitT
import Derived.Test.YtclpjlaielphfaaChgBest
import Derived.Test.YtclpjlaielphfaaChgPit
import Derived.Test.YtclpjlaielphfaaChgPFx11
section
namespace Go.Proofs.Ytclpjlaielphfaa.Pure
open Go Go.RowKit Go.Proofs.YtclpjlaielphfaaW.PrintWords Go.Proofs.YtclpjlaielphfaaW.PrintLast Go.Proofs.YtclpjlaielphfaaW.PrintMore Go.Proofs.Ytclpjlaielphfaa.PF Go.Proofs.Ytclpjlaielphfaa.Flow
set_option linter.unusedVariables false
set_option linter.unusedSimpArgs false
def posS : List Int → Int
  | [] => 0
  | v :: vs => (if v > 0 then v else 0) + posS vs
def valP (P : Nat → Bool) : Nat → List Int → Int
  | _, [] => 0
  | i, v :: vs => (if P i = true then v else 0) + valP P (i + 1) vs
def cntO (P : Nat → Bool) : List Int → Int
  | [] => 0
  | k :: ks => (if P k.toNat = true then 0 else 1) + cntO P ks
def viol (P : Nat → Bool) : Nat → List (List Int) → Int
  | _, [] => 0
  | i, r :: rs => (if P i = true then cntO P r else 0) + viol P (i + 1) rs
theorem cntO_nn (P : Nat → Bool) : ∀ r : List Int, 0 ≤ cntO P r
  | [] => Int.le_refl _
  | k :: ks => by
    have := cntO_nn P ks
    simp only [cntO]
    split <;> omega
theorem cntO_zero (P : Nat → Bool) : ∀ r : List Int, (cntO P r = 0 ↔ ∀ k, k ∈ r → P k.toNat = true)
  | [] => by simp [cntO]
  | k :: ks => by
    have h1 := cntO_nn P ks
    have h2 := cntO_zero P ks
    simp only [cntO]
    constructor
    · intro h q hq
      by_cases hk : P k.toNat = true
      · rw [if_pos hk] at h
        rcases List.mem_cons.1 hq with e | e
        · rw [e]; exact hk
        · exact h2.1 (by omega) q e
      · rw [if_neg hk] at h; omega
    · intro h
      rw [if_pos (h k (List.mem_cons_self ..)), h2.2 (fun q hq => h q (List.mem_cons_of_mem _ hq))]
      rfl
theorem viol_nn (P : Nat → Bool) : ∀ (l : List (List Int)) (i : Nat), 0 ≤ viol P i l
  | [], _ => Int.le_refl _
  | r :: rs, i => by
    have h1 := viol_nn P rs (i + 1)
    have h2 := cntO_nn P r
    simp only [viol]
    split <;> omega
def Closed (l : List (List Int)) (P : Nat → Bool) : Prop := ∀ i, i < l.length → P i = true → ∀ k, k ∈ rd_L1 l (i : Int) → P k.toNat = true
theorem L1_cons (r : List Int) (l : List (List Int)) (i : Nat) : rd_L1 (r :: l) ((i + 1 : Nat) : Int) = rd_L1 l (i : Int) := by
  rw [rd_L1, rd_L1, Int.toNat_natCast, Int.toNat_natCast, List.getD_cons_succ]
theorem viol_zero (P : Nat → Bool) : ∀ (l : List (List Int)) (i : Nat), (viol P i l = 0 ↔ ∀ j, j < l.length → P (i + j) = true → ∀ k, k ∈ rd_L1 l (j : Int) → P k.toNat = true)
  | [], i => by simp [viol]
  | r :: rs, i => by
    have h1 := viol_nn P rs (i + 1)
    have h2 := cntO_nn P r
    have h3 := viol_zero P rs (i + 1)
    simp only [viol]
    constructor
    · intro h j hj hp k hk
      cases j with
      | zero =>
        rw [if_pos (by simpa using hp)] at h
        exact (cntO_zero P r).1 (by omega) k hk
      | succ j =>
        rw [L1_cons] at hk
        refine h3.1 (by split at h <;> omega) j (by simpa using hj) (by rw [show i + 1 + j = i + (j + 1) by omega]; exact hp) k hk
    · intro h
      have e1 : viol P (i + 1) rs = 0 := h3.2 (fun j hj hp k hk => h (j + 1) (by simpa using hj) (by rw [show i + (j + 1) = i + 1 + j by omega]; exact hp) k (by rw [L1_cons]; exact hk))
      rw [e1]
      by_cases hp : P i = true
      · rw [if_pos hp, (cntO_zero P r).2 (fun k hk => h 0 (by simp) (by simpa using hp) k hk)]; rfl
      · rw [if_neg hp]; rfl
theorem closed_iff (l : List (List Int)) (P : Nat → Bool) : viol P 0 l = 0 ↔ Closed l P := by
  rw [viol_zero]
  constructor
  · intro h i hi hp; exact h i hi (by rw [Nat.zero_add]; exact hp)
  · intro h i hi hp; exact h i hi (by rw [Nat.zero_add] at hp; exact hp)
def inner (S : Int → Bool) (i : Nat) : Bool := S ((i : Int) + 1)
theorem capS_row (S : Int → Bool) (i : Int) : ∀ (r : List Int), (∀ k, k ∈ r → 0 ≤ k) → capS S (r.map (ed i)) = if S (i + 1) = true then 1000000000 * cntO (inner S) r else 0
  | [], _ => by simp [capS, cntO]
  | k :: ks, h => by
    have h1 := capS_row S i ks (fun q hq => h q (List.mem_cons_of_mem _ hq))
    have h2 := h k (List.mem_cons_self ..)
    have e : inner S k.toNat = S (k + 1) := by rw [inner, Int.toNat_of_nonneg h2]
    simp only [List.map_cons, capS, cntO, h1, ed, e]
    cases S (i + 1) <;> cases S (k + 1) <;> simp <;> omega
theorem capS_pe (S : Int → Bool) (n : Nat) (h0 : S 0 = true) (hn : S ((n : Int) + 1) = false) : ∀ (l : List (List Int)) (v : List Int) (i : Nat), v.length = l.length → (∀ r, r ∈ l → ∀ k, k ∈ r → 0 ≤ k) →
    capS S (pe n (i : Int) l v) = posS v - valP (inner S) i v + 1000000000 * viol (inner S) i l
  | [], [], i, _, _ => by simp [pe, capS, posS, valP, viol]
  | r :: rs, v :: vs, i, hl, hr => by
    have ih := capS_pe S n h0 hn rs vs (i + 1) (by simpa using hl) (fun q hq => hr q (List.mem_cons_of_mem _ hq))
    have h1 := capS_row S (i : Int) r (hr r (List.mem_cons_self ..))
    have e : inner S i = S ((i : Int) + 1) := rfl
    rw [pe, capS_append, capS_append, h1, show (i : Int) + 1 = ((i + 1 : Nat) : Int) by omega, ih]
    simp only [posS, valP, viol, e, edV]
    rw [show ((i + 1 : Nat) : Int) = (i : Int) + 1 by omega]
    by_cases hp : v > 0
    · rw [if_pos hp, if_pos hp]
      cases hS : S ((i : Int) + 1) <;> simp [capS, h0, hS] <;> omega
    · rw [if_neg hp, if_neg hp]
      by_cases hng : v < 0
      · rw [if_pos hng]
        cases hS : S ((i : Int) + 1) <;> simp [capS, hn, hS] <;> omega
      · rw [if_neg hng]
        have : v = 0 := by omega
        subst this
        cases hS : S ((i : Int) + 1) <;> simp [capS] <;> omega
  | [], _ :: _, _, h, _ => by simp at h
  | _ :: _, [], _, h, _ => by simp at h
theorem pe_ok (n : Nat) : ∀ (l : List (List Int)) (v : List Int) (i : Nat), v.length = l.length → i + l.length ≤ n → (∀ r, r ∈ l → ∀ k, k ∈ r → 0 ≤ k ∧ k < (n : Int)) → (∀ x, x ∈ v → -1000000000 ≤ x ∧ x ≤ 1000000000) →
    ∀ e, e ∈ pe n (i : Int) l v → EOk (n + 2) e
  | [], [], i, _, _, _, _ => by simp [pe]
  | r :: rs, v :: vs, i, hl, hi, hr, hv => by
    intro e he
    simp only [List.length_cons] at hi
    have hvb := hv v (List.mem_cons_self ..)
    rw [pe, List.append_assoc, List.mem_append, List.mem_append] at he
    rcases he with he | he | he
    · unfold edV at he
      split at he
      · rw [List.mem_singleton.1 he]
        exact ⟨by simp, by simp only []; omega, by simp only []; omega, by simp only []; omega, by simp only []; omega, by simp only []; omega⟩
      · split at he
        · rw [List.mem_singleton.1 he]
          exact ⟨by simp only []; omega, by simp only []; omega, by simp only []; omega, by simp only []; omega, by simp only []; omega, by simp only []; omega⟩
        · cases he
    · obtain ⟨k, hk, rfl⟩ := List.mem_map.1 he
      have := hr r (List.mem_cons_self ..) k hk
      exact ⟨by simp only [ed]; omega, by simp only [ed]; omega, by simp only [ed]; omega, by simp only [ed]; omega, by simp [ed], by simp [ed]⟩
    · rw [show (i : Int) + 1 = ((i + 1 : Nat) : Int) by omega] at he
      exact pe_ok n rs vs (i + 1) (by simpa using hl) (by omega) (fun q hq => hr q (List.mem_cons_of_mem _ hq)) (fun q hq => hv q (List.mem_cons_of_mem _ hq)) e he
  | [], _ :: _, _, h, _, _, _ => by simp at h
  | _ :: _, [], _, h, _, _, _ => by simp at h
theorem pe_len (n : Nat) : ∀ (l : List (List Int)) (v : List Int) (i : Int), (∀ r, r ∈ l → r.length ≤ 120) → (pe n i l v).length ≤ 200 * l.length
  | [], v, i, _ => by simp [pe]
  | r :: rs, [], i, _ => by simp [pe]
  | r :: rs, v :: vs, i, h => by
    have h1 := pe_len n rs vs (i + 1) (fun q hq => h q (List.mem_cons_of_mem _ hq))
    have h2 := h r (List.mem_cons_self ..)
    have h3 := edV_len n i v
    rw [pe]
    simp only [List.length_append, List.length_map, List.length_cons]
    omega
def onL : Int → List Bool → List Int
  | _, [] => []
  | j, b :: bs => if b = true then j :: onL (j + 1) bs else onL (j + 1) bs
def bt_ (B : List Bool) (i : Nat) : Bool := B.getD i false
theorem lvOuts_sp : ∀ (I : List Bool) (V : List Int) (j : Int), I.length = V.length → (∀ x, x ∈ V → 0 ≤ x) → lvOuts j (sp I V) = onL j I
  | [], [], _, _, _ => rfl
  | b :: I, x :: V, j, h, hv => by
    have ih := lvOuts_sp I V (j + 1) (by simpa using h) (fun y hy => hv y (List.mem_cons_of_mem _ hy))
    have hx := hv x (List.mem_cons_self ..)
    have e : sp (b :: I) (x :: V) = (if b = true then x else -1) :: sp I V := rfl
    rw [e, lvOuts, onL, ih]
    cases b
    · simp
    · simp [hx]
  | [], _ :: _, _, h, _ => by simp at h
  | _ :: _, [], _, h, _ => by simp at h
theorem onL_append : ∀ (B C : List Bool) (j : Int), onL j (B ++ C) = onL j B ++ onL (j + (B.length : Int)) C
  | [], C, j => by simp [onL]
  | b :: B, C, j => by
    have ih := onL_append B C (j + 1)
    simp only [List.cons_append, onL, ih, List.length_cons]
    rw [show j + 1 + (B.length : Int) = j + ((B.length + 1 : Nat) : Int) by omega]
    cases b <;> simp
theorem onL_bound : ∀ (B : List Bool) (j x : Int), x ∈ onL j B → j ≤ x ∧ x < j + (B.length : Int)
  | [], j, x, h => by cases h
  | b :: B, j, x, h => by
    rw [onL] at h
    simp only [List.length_cons]
    split at h
    · rcases List.mem_cons.1 h with e | e
      · omega
      · have := onL_bound B (j + 1) x e; omega
    · have := onL_bound B (j + 1) x h; omega
theorem onL_len : ∀ (B : List Bool) (j : Int), (onL j B).length ≤ B.length
  | [], j => Nat.le_refl _
  | b :: B, j => by
    have := onL_len B (j + 1)
    rw [onL]
    split <;> simp <;> omega
theorem onL_shift : ∀ (B : List Bool) (j : Int), (onL (j + 1) B).map (fun x => x - 1) = onL j B
  | [], j => rfl
  | b :: B, j => by
    have ih := onL_shift B (j + 1)
    rw [onL, onL]
    split
    · rw [List.map_cons, ih, show j + 1 - 1 = j by omega]
    · exact ih
theorem onL_mem : ∀ (B : List Bool) (j : Int) (i : Nat), (j + (i : Int)) ∈ onL j B ↔ bt_ B i = true
  | [], j, i => by simp [onL, bt_]
  | b :: B, j, 0 => by
    rw [onL]
    have hno : ¬ j ∈ onL (j + 1) B := fun h => by have := onL_bound _ _ _ h; omega
    split
    · rename_i h; simp [bt_, h]
    · rename_i h; simp [bt_, h, hno]
  | b :: B, j, i + 1 => by
    have ih := onL_mem B (j + 1) i
    rw [show j + 1 + (i : Int) = j + ((i + 1 : Nat) : Int) by omega] at ih
    rw [onL]
    have e : bt_ (b :: B) (i + 1) = bt_ B i := by simp [bt_]
    rw [e, ← ih]
    split
    · rw [List.mem_cons]
      constructor
      · rintro (h | h)
        · omega
        · exact h
      · exact .inr
    · exact Iff.rfl
structure BestP (l : List (List Int)) (v : List Int) (B : List Bool) : Prop where
  len : B.length = l.length
  closed : Closed l (bt_ B)
  most : ∀ Q, Closed l Q → valP Q 0 v ≤ valP (bt_ B) 0 v
  least : ∀ Q, Closed l Q → valP Q 0 v = valP (bt_ B) 0 v → ∀ i, i < l.length → bt_ B i = true → Q i = true
theorem valP_congr : ∀ (v : List Int) (P Q : Nat → Bool) (i : Nat), (∀ j, i ≤ j → j < i + v.length → P j = Q j) → valP P i v = valP Q i v
  | [], _, _, _, _ => rfl
  | x :: v, P, Q, i, h => by
    simp only [valP]
    rw [h i (Nat.le_refl _) (by simp), valP_congr v P Q (i + 1) (fun j h1 h2 => h j (by omega) (by simp only [List.length_cons]; omega))]
theorem valP_none : ∀ (v : List Int) (i : Nat), valP (fun _ => false) i v = 0
  | [], _ => rfl
  | x :: v, i => by simp only [valP]; rw [valP_none v (i + 1)]; simp
theorem posS_le : ∀ (v : List Int), (∀ x, x ∈ v → x ≤ 1000000) → posS v ≤ 1000000 * (v.length : Int)
  | [], _ => by simp [posS]
  | x :: v, h => by
    have h1 := posS_le v (fun y hy => h y (List.mem_cons_of_mem _ hy))
    have h2 := h x (List.mem_cons_self ..)
    simp only [posS, List.length_cons]
    split <;> omega
theorem mem_row {l : List (List Int)} {r : List Int} (h : r ∈ l) : ∃ i, i < l.length ∧ rd_L1 l (i : Int) = r := by
  obtain ⟨i, hi, e⟩ := List.mem_iff_getElem.1 h
  exact ⟨i, hi, by rw [rd_L1, Int.toNat_natCast, List.getD_eq_getElem?_getD, List.getElem?_eq_getElem hi, Option.getD_some, e]⟩
theorem mem_val {v : List Int} {x : Int} (h : x ∈ v) : ∃ i : Nat, i < v.length ∧ rd v (i : Int) = x := by
  obtain ⟨i, hi, e⟩ := List.mem_iff_getElem.1 h
  exact ⟨i, hi, by rw [rd_nat v i hi, e]⟩
section
variable {l : List (List Int)} {v : List Int} (hA : Arcs l) (hv : v.length = l.length) (hb : ∀ j : Nat, j < v.length → -1000000000 ≤ rd v (j : Int) ∧ rd v (j : Int) ≤ 1000000)
include hA hv hb
theorem pit_ok : ∃ E tt left s left' I V B, net (l.length + 2) (pe l.length 0 l v) = some (E, tt, left) ∧ (∃ k, runI E tt k 0 left = some (s, left')) ∧ (∃ k, runS E tt k 0 left = some (s, left')) ∧ (∃ k, fs k E tt left' = some (I, V)) ∧ (∃ k, lv k E tt left' = some (sp I V)) ∧
    (I.drop 1).take l.length = B ∧ lvOuts 0 (sp I V) = 0 :: onL 1 B ∧ BestP l v B := by
  have hn1 := hA.n1
  have hn2 := hA.n2
  have hrows : ∀ r, r ∈ l → r.length ≤ 120 ∧ ∀ k, k ∈ r → 0 ≤ k ∧ k < (l.length : Int) := fun r hr => by
    obtain ⟨i, hi, e⟩ := mem_row hr
    rw [← e]
    exact ⟨(hA.row hi).1, fun k hk => by have := (hA.row hi).2 k hk; omega⟩
  have hvals : ∀ x, x ∈ v → -1000000000 ≤ x ∧ x ≤ 1000000 := fun x hx => by
    obtain ⟨i, hi, e⟩ := mem_val hx
    rw [← e]
    exact hb i hi
  have hlen := pe_len l.length l v 0 (fun r hr => (hrows r hr).1)
  have hpos := posS_le v (fun x hx => (hvals x hx).2)
  obtain ⟨E, tt, left, f1, f2, f3, f4, f5⟩ := net_ok (n := l.length + 2) (l := pe l.length 0 l v) (by omega) (by omega) (by omega)
    (pe_ok l.length l v 0 hv (by omega) (fun r hr => (hrows r hr).2) (fun x hx => by have := hvals x hx; omega))
  have hcap : ∀ S : Int → Bool, S 0 = true → S ((l.length : Int) + 1) = false → cutw tt S left = posS v - valP (inner S) 0 v + 1000000000 * viol (inner S) 0 l := fun S h0 h1 => by
    rw [f5 S]
    exact capS_pe S l.length h0 h1 l v 0 hv (fun r hr k hk => ((hrows r hr).2 k hk).1)
  have hsink : (E.length : Int) - 1 = (l.length : Int) + 1 := by omega
  have hS0 : cutw tt S0 left = posS v := by
    rw [hcap S0 rfl (by unfold S0; exact decide_eq_false (by omega))]
    have hno : ∀ i : Nat, inner S0 i = false := fun i => by unfold inner S0; exact decide_eq_false (by omega)
    have e1 : valP (inner S0) 0 v = 0 := by rw [valP_congr v (inner S0) (fun _ => false) 0 (fun j _ _ => hno j)]; exact valP_none v 0
    have e2 : viol (inner S0) 0 l = 0 := (closed_iff l _).2 (fun i _ hp => by rw [hno] at hp; cases hp)
    rw [e1, e2]
    omega
  obtain ⟨s, left', I, V, h1, h2, h3, h4, h5, h6, h7, h8, h9, h10, h11⟩ := flow_ok f3 f4 (by rw [hS0]; omega)
  rw [hsink] at h9 h11
  have hIB : I = true :: ((I.drop 1).take l.length ++ [false]) := by
    have hIl : I.length = l.length + 2 := by rw [h5, f2]
    match I, hIl, h8, h9 with
    | [], h, _, _ => simp at h
    | b :: I, h, h8, h9 =>
      have hb : b = true := by simpa [rdB] using h8
      subst hb
      simp only [List.length_cons] at h
      have hlast : I = I.take l.length ++ [false] := by
        have h12 : I.drop l.length = [false] := by
          rw [List.drop_eq_getElem_cons (by omega), List.drop_eq_nil_of_le (by omega)]
          congr 1
          have : rdB (true :: I) ((l.length : Int) + 1) = I[l.length]'(by omega) := by
            rw [rdB, show ((l.length : Int) + 1).toNat = l.length + 1 by omega, List.getD_cons_succ, List.getD_eq_getElem?_getD, List.getElem?_eq_getElem (by omega), Option.getD_some]
          rw [← this]
          exact h9
        have := (List.take_append_drop l.length I).symm
        rw [h12] at this
        exact this
      simp only [List.drop_succ_cons, List.drop_zero]
      rw [← hlast]
  have hBl : ((I.drop 1).take l.length).length = l.length := by
    rw [List.length_take, List.length_drop, h5, f2]; omega
  have hin : ∀ i : Nat, i < l.length → inner (rdB I) i = bt_ ((I.drop 1).take l.length) i := fun i hi => by
    unfold inner bt_
    rw [rdB, show ((i : Int) + 1).toNat = i + 1 by omega, List.getD_eq_getElem?_getD, List.getD_eq_getElem?_getD, List.getElem?_take, if_pos hi, List.getElem?_drop, Nat.add_comm]
  have cut : ∀ Q : Nat → Bool, ∃ S : Int → Bool, S 0 = true ∧ S ((l.length : Int) + 1) = false ∧ ∀ i : Nat, i < l.length → inner S i = Q i := fun Q => by
    refine ⟨fun b => decide (b = 0) || (decide (b ≤ (l.length : Int)) && Q (b - 1).toNat), by simp, ?_, fun i hi => ?_⟩
    · simp only [Bool.or_eq_false_iff, Bool.and_eq_false_iff]
      exact ⟨decide_eq_false (by omega), .inl (decide_eq_false (by omega))⟩
    · show (decide ((i : Int) + 1 = 0) || (decide ((i : Int) + 1 ≤ (l.length : Int)) && Q ((i : Int) + 1 - 1).toNat)) = Q i
      rw [decide_eq_false (by omega), decide_eq_true (by omega), show ((i : Int) + 1 - 1).toNat = i by omega]
      simp
  have hS : ∀ Q : Nat → Bool, Closed l Q → ∃ S : Int → Bool, S 0 = true ∧ S ((l.length : Int) + 1) = false ∧ (∀ i : Nat, i < l.length → inner S i = Q i) ∧ cutw tt S left = posS v - valP Q 0 v := fun Q hQ => by
    obtain ⟨S, s0, s1, s2⟩ := cut Q
    refine ⟨S, s0, s1, s2, ?_⟩
    have hc : Closed l (inner S) := fun i hi hp k hk => by
      have hkk := (hA.row hi).2 k hk
      rw [s2 i hi] at hp
      rw [s2 k.toNat (by omega)]
      exact hQ i hi hp k hk
    rw [hcap S s0 s1, (closed_iff l _).2 hc, valP_congr v (inner S) Q 0 (fun j _ hj => s2 j (by omega))]
    omega
  have hsle : s ≤ posS v := by
    obtain ⟨S, s0, s1, s2, s3⟩ := hS (fun _ => false) (fun i _ hp => by cases hp)
    have := (h11 S s0 s1).1
    rw [s3, valP_none] at this
    omega
  have hI := hcap (rdB I) h8 h9
  have hvP : valP (inner (rdB I)) 0 v ≤ posS v := by
    have : ∀ (v : List Int) (P : Nat → Bool) (i : Nat), valP P i v ≤ posS v := by
      intro v
      induction v with
      | nil => intro P i; exact Int.le_refl _
      | cons x v ih =>
        intro P i
        have := ih P (i + 1)
        simp only [valP, posS]
        split <;> split <;> omega
    exact this v _ 0
  have hviol : viol (inner (rdB I)) 0 l = 0 := by
    have := viol_nn (inner (rdB I)) l 0
    rw [h10] at hI
    omega
  have hclI := (closed_iff l _).1 hviol
  have hval : valP (bt_ ((I.drop 1).take l.length)) 0 v = posS v - s := by
    rw [← valP_congr v (inner (rdB I)) _ 0 (fun j _ hj => hin j (by omega))]
    rw [h10, hviol] at hI
    omega
  refine ⟨E, tt, left, s, left', I, V, (I.drop 1).take l.length, f1, h1, h2, h3, h4, rfl, ?_, hBl, ?_, ?_, ?_⟩
  · rw [lvOuts_sp I V 0 (by rw [h5, h6]) (fun x hx => by
      obtain ⟨i, hi, e⟩ := mem_rd hx
      rw [← e]
      exact h7 i ⟨hi.1, by rw [← h6]; exact hi.2⟩)]
    have e1 : onL 0 I = onL 0 (true :: ((I.drop 1).take l.length ++ [false])) := by rw [← hIB]
    rw [e1, onL, if_pos rfl, onL_append]
    simp [onL]
  · intro i hi hp k hk
    have hkk := (hA.row hi).2 k hk
    rw [← hin i hi] at hp
    rw [← hin k.toNat (by omega)]
    exact hclI i hi hp k hk
  · intro Q hQ
    obtain ⟨S, s0, s1, s2, s3⟩ := hS Q hQ
    have := (h11 S s0 s1).1
    omega
  · intro Q hQ he i hi hp
    obtain ⟨S, s0, s1, s2, s3⟩ := hS Q hQ
    have := (h11 S s0 s1).2 (by omega) ((i : Int) + 1) ⟨by omega, by omega⟩ (by rw [← hin i hi] at hp; exact hp)
    rw [← s2 i hi]
    exact this
end
theorem BestP.unique {l : List (List Int)} {v : List Int} {B C : List Bool} (h : BestP l v B) (k : BestP l v C) : B = C := by
  have e : valP (bt_ B) 0 v = valP (bt_ C) 0 v := by
    have h1 := h.most _ k.closed
    have h2 := k.most _ h.closed
    omega
  apply List.ext_getElem
  · rw [h.len, k.len]
  · intro i h1 h2
    have hi : i < l.length := by rw [← h.len]; exact h1
    have g1 := h.least _ k.closed e.symm i hi
    have g2 := k.least _ h.closed e i hi
    have b1 : bt_ B i = B[i] := by rw [bt_, List.getD_eq_getElem?_getD, List.getElem?_eq_getElem h1, Option.getD_some]
    have b2 : bt_ C i = C[i] := by rw [bt_, List.getD_eq_getElem?_getD, List.getElem?_eq_getElem h2, Option.getD_some]
    rw [b1, b2] at g1 g2
    cases hB : B[i] <;> cases hC : C[i] <;> simp_all
end Go.Proofs.Ytclpjlaielphfaa.Pure
end
section
namespace Go.Proofs.Ytclpjlaielphfaa.Pure
open Go Go.RowKit Go.Proofs.YtclpjlaielphfaaW.PrintWords Go.Proofs.YtclpjlaielphfaaW.PrintLast Go.Proofs.YtclpjlaielphfaaW.PrintMore Go.Proofs.Ytclpjlaielphfaa.PF Go.Proofs.Ytclpjlaielphfaa.Flow
set_option linter.unusedVariables false
set_option linter.unusedSimpArgs false
theorem paOf_ok (xs : List Int) (hl : xs.length ≤ 1000) (hx : ∀ x, x ∈ xs → -1000000 ≤ x ∧ x ≤ 1000000) : Ev (fun k => spec_paOf.f k (0 :: xs)) (xs.map fun x => x - 1) := by
  have loop : ∀ (d : Nat) (j : Int) (acc : List Int), 0 ≤ j → j + d = (xs.length : Int) → acc.length + d ≤ 100000 → Ev (fun k => spec_paOf.l0 k acc xs (xs.length : Int) j) (acc ++ (xs.drop j.toNat).map fun x => x - 1) := by
    intro d
    induction d with
    | zero =>
      intro j acc h0 h1 ha
      refine Ev.step (f := fun _ => some (acc ++ (xs.drop j.toNat).map fun x => x - 1)) (fun k => ?_) (Ev.now _)
      rw [spec_paOf.l0, if_neg (by omega), List.drop_eq_nil_of_le (by omega), List.map_nil, List.append_nil]
    | succ d ih =>
      intro j acc h0 h1 ha
      have hg := rd_get xs j h0 (by omega)
      have hm := hx _ (List.mem_of_getElem? hg)
      have h_ := ih (j + 1) (acc ++ [rd xs j - 1]) (by omega) (by omega) (by simp; omega)
      rw [map_ext_drop xs _ j.toNat (by omega) _ hg]
      rw [show (j + 1).toNat = j.toNat + 1 by omega, List.append_assoc] at h_
      refine Ev.step (fun k => ?_) h_
      rw [spec_paOf.l0, if_pos (by omega), if_pos h0, if_pos (by omega), if_pos (by omega), wrap_id (x := rd xs j - 1) (by omega) (by omega), wrap_id (x := j + 1) (by omega) (by omega)]
  have := loop xs.length 0 [] (by omega) (by omega) (by simp; omega)
  refine Ev.congr (fun k => ?_) this
  rw [spec_paOf.f, if_pos (by simp only [List.length_cons]; omega)]
  rfl
theorem Ev.of_rounds {α : Type} {g : Nat → Option α} {r : α} (hg : ∀ k, LeO (g k) (g (k + 1))) (h : ∃ k, g k = some r) : Ev g r := by
  obtain ⟨k, hk⟩ := h
  exact Ev.of hg hk
section
variable {l : List (List Int)} {v : List Int} (hA : Arcs l) (hv : v.length = l.length) (hb : ∀ j : Nat, j < v.length → -1000000000 ≤ rd v (j : Int) ∧ rd v (j : Int) ≤ 1000000)
include hA hv hb
theorem paFind_ok {B : List Bool} (hB : BestP l v B) : Ev (fun k => spec_paFind.f k l v) (onL 0 B) := by
  obtain ⟨E, tt, left, s, left', I, V, B', f1, f2, f3, f4, f5, f6, f7, f8⟩ := pit_ok hA hv hb
  obtain rfl := BestP.unique hB f8
  have hn2 := hA.n2
  have hBl := hB.len
  have e1 := paEdges_ok hA hv (fun j hj => by have := hb j hj; omega)
  have e2 : Ev (fun k => spec_mfLeast.f k ((l.length : Int) + 2) (pe l.length 0 l v)) (0 :: onL 1 B) := by
    have h1 : Ev (fun k => runS E tt k 0 left) (s, left') := Ev.of_rounds (fun k => runS_mono _ _ _ _ _) f3
    have h2 : Ev (fun k => lv k E tt left') (sp I V) := Ev.of_rounds (fun k => fun _ h => lv_mono h) f5
    refine Ev.congr (fun k => ?_) (Ev.bind (f := fun k (r : Int × List Int) => (lv k E tt r.2).bind fun V => some (lvOuts 0 V)) h1 (Ev.bind (f := fun _ V => some (lvOuts 0 V)) h2 (Ev.congr (fun _ => by rw [f7]) (Ev.now _))))
    show leastF k ((l.length : Int) + 2) (pe l.length 0 l v) = _
    unfold leastF
    rw [if_pos (by omega), show ((l.length : Int) + 2).toNat = l.length + 2 by omega, f1, Option.bind_some]
  have e3 := paOf_ok (onL 1 B) (by have := onL_len B 1; omega) (fun x hx => by have := onL_bound B 1 x hx; omega)
  rw [show (onL 1 B).map (fun x => x - 1) = onL 0 B from onL_shift B 0] at e3
  have e4 : wrap64 ((l.length : Int) + 2) = (l.length : Int) + 2 := wrap_id (by omega) (by omega)
  refine Ev.congr (fun k => ?_) (Ev.bind (f := fun k t => (spec_mfLeast.f k ((l.length : Int) + 2) t).bind fun t145 => (spec_paOf.f k t145).bind fun t148 => some t148) e1
    (Ev.bind (f := fun k t145 => (spec_paOf.f k t145).bind fun t148 => some t148) e2 (Ev.bind (f := fun _ t148 => some t148) e3 (Ev.now _))))
  rw [spec_paFind.f, e4]
end
theorem free_rd (W X : List Bool) (v : List Int) (j : Nat) (hj : j < v.length) : rd (freeL W X v) (j : Int) = freeAt W X j (rd v (j : Int)) := by
  rw [rd_nat _ j (by rw [freeL_len]; exact hj), rd_nat v j hj]
  simp [freeL]
theorem bestPit_ok {l : List (List Int)} {v : List Int} (W X : List Bool) (hA : Arcs l) (hv : v.length = l.length) (hb : ∀ j : Nat, j < v.length → -1000000000 ≤ rd v (j : Int) ∧ rd v (j : Int) ≤ 1000000)
    (hW : W = [] ∨ W.length = l.length) (hX : X = [] ∨ X.length = l.length) : ∃ B, BestP l (freeL W X v) B ∧ Ev (fun k => impl_bestPit.f k l v W X false) (outL W B) := by
  have hn2 := hA.n2
  have hn1 := hA.n1
  have hv' : (freeL W X v).length = l.length := by rw [freeL_len]; exact hv
  have hb' : ∀ j : Nat, j < (freeL W X v).length → -1000000000 ≤ rd (freeL W X v) (j : Int) ∧ rd (freeL W X v) (j : Int) ≤ 1000000 := fun j hj => by
    rw [freeL_len] at hj
    rw [free_rd W X v j hj]
    have := hb j hj
    unfold freeAt
    split
    · omega
    · split <;> omega
  obtain ⟨E, tt, left, s, left', I, V, B, f1, f2, f3, f4, f5, f6, f7, f8⟩ := pit_ok hA hv' hb'
  refine ⟨B, f8, ?_⟩
  have e1 := pitNetwork_ok hA hv' (fun j hj => by have := hb' j hj; omega)
  have h1 : Ev (fun k => runI E tt k 0 left) (s, left') := Ev.of_rounds (fun k => runI_mono _ _ _ _ _) f2
  have h2 : Ev (fun k => fs k E tt left') (I, V) := Ev.of_rounds (fun k => fun _ h => fs_mono h) f4
  refine Ev.congr (fun k => ?_) (Ev.bind (f := fun k (p : Int × List S170) => if 2 ≤ p.1 ∧ p.1 ≤ 1000000 ∧ (W = [] ∨ p.1 - 2 ≤ (W.length : Int)) then (net p.1.toNat p.2).bind fun s => (runI s.1 s.2.1 k 0 s.2.2).bind fun r => (fs k s.1 s.2.1 r.2).bind fun m => some (outL W ((m.1.drop 1).take (p.1.toNat - 2))) else none) e1 ?_)
  · show bestF k l v W X false = _
    unfold bestF
    rw [if_pos ⟨rfl, by omega, hW.imp id (fun h => by omega), hX.imp id (fun h => by omega)⟩]
  · refine Ev.congr (fun k => ?_) (Ev.bind (f := fun k (r : Int × List Int) => (fs k E tt r.2).bind fun m => some (outL W ((m.1.drop 1).take l.length))) h1 (Ev.bind (f := fun _ (m : List Bool × List Int) => some (outL W ((m.1.drop 1).take l.length))) h2 (Ev.congr (fun _ => by rw [f6]) (Ev.now _))))
    simp only []
    rw [if_pos ⟨by omega, by omega, hW.imp id (fun h => by omega)⟩, show ((l.length : Int) + 2).toNat = l.length + 2 by omega, f1, Option.bind_some, Nat.add_sub_cancel]
theorem outL_nil (B : List Bool) : outL [] B = B := by
  apply List.ext_getElem
  · simp [outL]
  · intro i h1 h2; simp [outL]
theorem freeL_nil (v : List Int) : freeL [] [] v = v := by
  apply List.ext_getElem
  · simp [freeL]
  · intro i h1 h2; simp [freeL, freeAt]
section
variable {v : List Int} (hV : Vals v)
include hV
theorem Vals.mem : ∀ x, x ∈ v → -1000000 ≤ x ∧ x ≤ 1000000 := fun x hx => by
  obtain ⟨i, hi, e⟩ := mem_val hx
  rw [← e]
  exact hV.r i hi
end
def appE (v : List Int) (l : List S130) : List Int := l.foldl (fun v e => v.set e.f0.toNat e.f1) v
theorem appE_len : ∀ (l : List S130) (v : List Int), (appE v l).length = v.length
  | [], v => rfl
  | e :: l, v => by
    have := appE_len l (v.set e.f0.toNat e.f1)
    rw [List.length_set] at this
    exact this
theorem appE_get : ∀ (l : List S130) (v : List Int) (x : Int), x ∈ appE v l → x ∈ v ∨ ∃ e, e ∈ l ∧ e.f1 = x
  | [], v, x, h => .inl h
  | e :: l, v, x, h => by
    rcases appE_get l (v.set e.f0.toNat e.f1) x h with h1 | ⟨e', h1, h2⟩
    · rcases List.mem_or_eq_of_mem_set h1 with h2 | h2
      · exact .inl h2
      · exact .inr ⟨e, List.mem_cons_self .., h2.symm⟩
    · exact .inr ⟨e', List.mem_cons_of_mem _ h1, h2⟩
theorem E_mem {l : List S130} {e : S130} (h : e ∈ l) : ∃ i : Nat, i < l.length ∧ rd_T130 l (i : Int) = e := by
  obtain ⟨i, hi, e_⟩ := List.mem_iff_getElem.1 h
  exact ⟨i, hi, by rw [rd_T130, Int.toNat_natCast, List.getD_eq_getElem?_getD, List.getElem?_eq_getElem hi, Option.getD_some, e_]⟩
theorem appE_vals {v : List Int} {l : List S130} (hV : Vals v) (hE : Edits v.length l) : Vals (appE v l) := by
  refine ⟨by rw [appE_len]; exact hV.n1, by rw [appE_len]; exact hV.n2, fun j hj => ?_⟩
  have hm : rd (appE v l) (j : Int) ∈ appE v l := rd_mem _ _ (by omega) (by omega)
  rcases appE_get l v _ hm with h | ⟨e, h1, h2⟩
  · exact hV.mem _ h
  · obtain ⟨i, hi, e_⟩ := E_mem h1
    have := hE.r i hi
    rw [← h2, ← e_]
    exact ⟨this.v0, this.v1⟩
section
variable {v : List Int} {l : List S130} (hV : Vals v) (hE : Edits v.length l)
include hV hE
theorem editValues_ok : Ev (fun k => impl_editValues.f k v l) (appE v l) := by
  have hn2 := hV.n2
  have hfew := hE.few
  have loop : ∀ (d j : Nat) (x : List Int), j + d = l.length → x.length = v.length → Ev (fun k => impl_editValues.l0 k x l (l.length : Int) (j : Int)) (appE x (l.drop j)) := by
    intro d
    induction d with
    | zero =>
      intro j x h1 hx
      refine Ev.step (f := fun _ => some (appE x (l.drop j))) (fun k => ?_) (Ev.now _)
      rw [impl_editValues.l0, if_neg (by omega), List.drop_eq_nil_of_le (by omega)]
      rfl
    | succ d ih =>
      intro j x h1 hx
      have hj : j < l.length := by omega
      have he := hE.r j hj
      have h0 := he.b0
      have h2 := he.b1
      have hr : rd_T130 l (j : Int) = l[j] := by rw [rd_T130, Int.toNat_natCast, List.getD_eq_getElem?_getD, List.getElem?_eq_getElem hj, Option.getD_some]
      have hj1 : (j : Int) + 1 = ((j + 1 : Nat) : Int) := by omega
      rw [List.drop_eq_getElem_cons hj]
      refine Ev.step (fun k => ?_) (ih (j + 1) (x.set (l[j]).f0.toNat (l[j]).f1) (by omega) (by simp [hx]))
      rw [impl_editValues.l0, if_pos (by omega), if_pos (by omega), if_pos (by omega), if_pos h0, if_pos (by omega), wrap_id (x := (j : Int) + 1) (by omega) (by omega), hr, hj1]
  have := loop l.length 0 v (by omega) rfl
  refine Ev.congr (fun k => ?_) this
  rw [impl_editValues.f, Option.bind_some, if_pos (by simp; omega), List.nil_append]
  rfl
theorem edAfter_ok : Ev (fun k => spec_edAfter.f k v l) (appE v l) := by
  have hn2 := hV.n2
  have hfew := hE.few
  have loop : ∀ (d j : Nat) (x : List Int), j + d = l.length → x.length = v.length → Ev (fun k => spec_edAfter.l0 k x l (l.length : Int) (j : Int)) (appE x (l.drop j)) := by
    intro d
    induction d with
    | zero =>
      intro j x h1 hx
      refine Ev.step (f := fun _ => some (appE x (l.drop j))) (fun k => ?_) (Ev.now _)
      rw [spec_edAfter.l0, if_neg (by omega), List.drop_eq_nil_of_le (by omega)]
      rfl
    | succ d ih =>
      intro j x h1 hx
      have hj : j < l.length := by omega
      have he := hE.r j hj
      have h0 := he.b0
      have h2 := he.b1
      have hr : rd_T130 l (j : Int) = l[j] := by rw [rd_T130, Int.toNat_natCast, List.getD_eq_getElem?_getD, List.getElem?_eq_getElem hj, Option.getD_some]
      have hj1 : (j : Int) + 1 = ((j + 1 : Nat) : Int) := by omega
      rw [List.drop_eq_getElem_cons hj]
      refine Ev.step (fun k => ?_) (ih (j + 1) (x.set (l[j]).f0.toNat (l[j]).f1) (by omega) (by simp [hx]))
      rw [spec_edAfter.l0, if_pos (by omega), if_pos (by omega), if_pos (by omega), if_pos h0, if_pos (by omega), wrap_id (x := (j : Int) + 1) (by omega) (by omega), hr, hj1]
  have := loop l.length 0 v (by omega) rfl
  refine Ev.congr (fun k => ?_) this
  rw [spec_edAfter.f, spec_l1Own.f, Option.bind_some, if_pos (by simp; omega), Option.bind_some, List.nil_append]
  rfl
end
end Go.Proofs.Ytclpjlaielphfaa.Pure
end
