/- Used by the claim's last text. -/
import Derived.Test.YtclpjlaielphfaaRseFlowS
import Derived.Test.YtclpjlaielphfaaRseFlow10
section
namespace Go.Proofs.Ytclpjlaielphfaa.Flow
open Go Go.RowKit Go.Proofs.YtclpjlaielphfaaW.PrintWords Go.Proofs.YtclpjlaielphfaaW.PrintLast Go.Proofs.YtclpjlaielphfaaW.PrintMore Go.Proofs.Ytclpjlaielphfaa.PF
set_option linter.unusedVariables false
set_option linter.unusedSimpArgs false
theorem wsum_append : ∀ (l m : List Int) (f : Nat → Int), wsum f (l ++ m) = wsum f l + wsum (fun i => f (i + l.length)) m
  | [], m, f => by simp [wsum]
  | x :: l, m, f => by
    simp only [List.cons_append, wsum, List.length_cons]
    rw [wsum_append l m (fun i => f (i + 1)), Int.add_assoc]
    have : (fun i => f (i + l.length + 1)) = fun i => f (i + (l.length + 1)) := by funext i; rw [Nat.add_assoc]
    rw [this]
theorem wsum_congr : ∀ (l : List Int) (f g : Nat → Int), (∀ i, i < l.length → f i = g i) → wsum f l = wsum g l
  | [], _, _, _ => rfl
  | x :: l, f, g, h => by
    simp only [wsum]
    rw [h 0 (by simp), wsum_congr l _ (fun i => g (i + 1)) (fun i hi => h (i + 1) (by simpa using hi))]
def capS (S : Int → Bool) : List S170 → Int
  | [] => 0
  | e :: l => (if S e.f0 = true ∧ S e.f1 = false then e.f2 else 0) + capS S l
theorem capS_append (S : Int → Bool) : ∀ l m : List S170, capS S (l ++ m) = capS S l + capS S m
  | [], m => by simp [capS]
  | e :: l, m => by simp only [List.cons_append, capS]; rw [capS_append S l m]; omega
structure EOk (n : Nat) (e : S170) : Prop where
  a0 : 0 ≤ e.f0
  a1 : e.f0 < (n : Int)
  b0 : 0 ≤ e.f1
  b1 : e.f1 < (n : Int)
  c0 : 0 ≤ e.f2
  c1 : e.f2 ≤ 1000000000
theorem rd_app_lt (l m : List Int) (i : Int) (h0 : 0 ≤ i) (h1 : i < (l.length : Int)) : rd (l ++ m) i = rd l i := by
  rw [rd, rd, List.getD_eq_getElem?_getD, List.getD_eq_getElem?_getD, List.getElem?_append_left (by omega)]
theorem rd_app_0 (l : List Int) (x y : Int) : rd (l ++ [x, y]) (l.length : Int) = x := by
  rw [rd, Int.toNat_natCast, List.getD_eq_getElem?_getD, List.getElem?_append_right (Nat.le_refl _)]
  simp
theorem rd_app_1 (l : List Int) (x y : Int) : rd (l ++ [x, y]) ((l.length : Int) + 1) = y := by
  rw [rd, show ((l.length : Int) + 1).toNat = l.length + 1 by omega, List.getD_eq_getElem?_getD, List.getElem?_append_right (by omega)]
  simp
theorem row_add_eq (E : List (List Int)) (a x : Int) (h : inb a E) : rowAt (addE E a x) a = rowAt E a ++ [x] := by
  have h0 := h.1
  have h1 := h.2
  unfold addE
  rw [rowAt, List.getD_eq_getElem?_getD, List.getElem?_set_self (by omega), Option.getD_some]
theorem row_add_ne (E : List (List Int)) (a b x : Int) (h : inb a E) (hb : 0 ≤ b) (hne : a ≠ b) : rowAt (addE E a x) b = rowAt E b := by
  have h0 := h.1
  unfold addE
  rw [rowAt, List.getD_eq_getElem?_getD, List.getElem?_set_ne (by omega), ← List.getD_eq_getElem?_getD, ← rowAt]
theorem row_out (E : List (List Int)) (a : Int) (h : ¬ inb a E) (ha : 0 ≤ a) : rowAt E a = [] := by
  rw [rowAt, List.getD_eq_getElem?_getD, List.getElem?_eq_none (by unfold inb at h; omega)]
  rfl
structure NI (n : Nat) (E : List (List Int)) (tt left : List Int) : Prop where
  eL : E.length = n
  ev : ∃ m : Nat, tt.length = 2 * m
  row : ∀ a, inb a E → ∀ e, e ∈ rowAt E a → inb e tt ∧ rd tt (back e) = a
  tgt : ∀ e, inb e tt → inb (rd tt e) E
  mem : ∀ e, inb e tt → e ∈ rowAt E (rd tt (back e))
  rl : ∀ a, inb a E → (rowAt E a).length ≤ tt.length
  L : Lft tt left
theorem netStep_ok {n : Nat} {E : List (List Int)} {tt left : List Int} {e : S170} (h : NI n E tt left) (he : EOk n e) (hb : tt.length ≤ 900000) :
    ∃ E' tt' left', netStep (E, tt, left) e = some (E', tt', left') ∧ NI n E' tt' left' ∧ tt'.length = tt.length + 2 ∧ ∀ S, cutw tt' S left' = cutw tt S left + (if S e.f0 = true ∧ S e.f1 = false then e.f2 else 0) := by
  obtain ⟨m, hm⟩ := h.ev
  have ha : inb e.f0 E := ⟨he.a0, by rw [h.eL]; exact he.a1⟩
  have hbE : inb e.f1 E := ⟨he.b0, by rw [h.eL]; exact he.b1⟩
  have hw : wrap64 ((tt.length : Int) + 1) = (tt.length : Int) + 1 := wrap_id (by omega) (by omega)
  have hb1 : inb e.f1 (addE E e.f0 (tt.length : Int)) := ⟨he.b0, by rw [addE_len, h.eL]; exact he.b1⟩
  have rows : ∀ b, inb b E → ∀ x, x ∈ rowAt (addE (addE E e.f0 (tt.length : Int)) e.f1 ((tt.length : Int) + 1)) b ↔ x ∈ rowAt E b ∨ (b = e.f0 ∧ x = (tt.length : Int)) ∨ (b = e.f1 ∧ x = (tt.length : Int) + 1) := by
    intro b hb x
    by_cases h1 : b = e.f1
    · subst h1
      rw [row_add_eq _ _ _ hb1]
      by_cases h2 : e.f1 = e.f0
      · rw [h2, row_add_eq _ _ _ ha]
        simp [or_assoc]
      · rw [row_add_ne _ _ _ _ ha he.b0 (Ne.symm h2)]
        simp [h2]
    · rw [row_add_ne _ _ _ _ hb1 hb.1 (Ne.symm h1)]
      by_cases h2 : b = e.f0
      · subst h2
        rw [row_add_eq _ _ _ ha]
        simp [h1]
      · rw [row_add_ne _ _ _ _ ha hb.1 (Ne.symm h2)]
        simp [h1, h2]
  have rlen : ∀ b, inb b E → (rowAt (addE (addE E e.f0 (tt.length : Int)) e.f1 ((tt.length : Int) + 1)) b).length ≤ (rowAt E b).length + 2 := by
    intro b hb
    by_cases h1 : b = e.f1
    · subst h1
      rw [row_add_eq _ _ _ hb1, List.length_append]
      by_cases h2 : e.f1 = e.f0
      · rw [h2, row_add_eq _ _ _ ha]; simp
      · rw [row_add_ne _ _ _ _ ha he.b0 (Ne.symm h2)]; simp
    · rw [row_add_ne _ _ _ _ hb1 hb.1 (Ne.symm h1)]
      by_cases h2 : b = e.f0
      · subst h2; rw [row_add_eq _ _ _ ha]; simp
      · rw [row_add_ne _ _ _ _ ha hb.1 (Ne.symm h2)]; simp
  have rlen1 : (rowAt (addE E e.f0 (tt.length : Int)) e.f1).length ≤ (rowAt E e.f1).length + 1 := by
    by_cases h2 : e.f1 = e.f0
    · rw [h2, row_add_eq _ _ _ ha]; simp
    · rw [row_add_ne _ _ _ _ ha he.b0 (Ne.symm h2)]; simp
  have hll := h.L.len
  have bk0 : back (tt.length : Int) = (tt.length : Int) + 1 := by rw [back_of _ (by omega) (by omega), if_pos (by omega)]
  have bk1 : back ((tt.length : Int) + 1) = (tt.length : Int) := by rw [back_of _ (by omega) (by omega), if_neg (by omega)]; omega
  have old : ∀ i, inb i tt → inb (back i) tt := fun i hi => (back_inb h.ev (by omega) hi).1
  have split3 : ∀ i, inb i (tt ++ [e.f1, e.f0]) → inb i tt ∨ i = (tt.length : Int) ∨ i = (tt.length : Int) + 1 := fun i hi => by
    unfold inb at hi ⊢
    simp only [List.length_append, List.length_cons, List.length_nil] at hi
    omega
  have rdo : ∀ i, inb i tt → rd (tt ++ [e.f1, e.f0]) i = rd tt i := fun i hi => rd_app_lt _ _ _ hi.1 hi.2
  have rd0 : rd (tt ++ [e.f1, e.f0]) (tt.length : Int) = e.f1 := rd_app_0 _ _ _
  have rd1 : rd (tt ++ [e.f1, e.f0]) ((tt.length : Int) + 1) = e.f0 := rd_app_1 _ _ _
  have rlo : ∀ i, inb i tt → rd (left ++ [e.f2, 0]) i = rd left i := fun i hi => rd_app_lt _ _ _ hi.1 (by rw [hll]; exact hi.2)
  have rl0 : rd (left ++ [e.f2, 0]) (tt.length : Int) = e.f2 := by rw [← hll]; exact rd_app_0 _ _ _
  have rl1 : rd (left ++ [e.f2, 0]) ((tt.length : Int) + 1) = 0 := by rw [← hll]; exact rd_app_1 _ _ _
  have inE : ∀ b, inb b (addE (addE E e.f0 (tt.length : Int)) e.f1 ((tt.length : Int) + 1)) ↔ inb b E := fun b => by unfold inb; rw [addE_len, addE_len]
  have inn : ∀ i, inb i (left ++ [e.f2, 0]) → inb i (tt ++ [e.f1, e.f0]) := fun i hi => ⟨hi.1, by have := hi.2; simp only [List.length_append, List.length_cons, List.length_nil] at this ⊢; omega⟩
  have c0 := he.c0
  have c1 := he.c1
  refine ⟨addE (addE E e.f0 (tt.length : Int)) e.f1 ((tt.length : Int) + 1), tt ++ [e.f1, e.f0], left ++ [e.f2, 0], ?_, ?_, ?_, ?_⟩
  rotate_left 1
  · refine ⟨?_, ?_, ?_, ?_, ?_, ?_, ?_⟩
    · rw [addE_len, addE_len]; exact h.eL
    · exact ⟨m + 1, by simp; omega⟩
    · intro a haE x hx
      have haE' := (inE a).1 haE
      rcases (rows a haE' x).1 hx with h1 | ⟨h1, h2⟩ | ⟨h1, h2⟩
      · obtain ⟨g1, g2⟩ := h.row a haE' x h1
        exact ⟨⟨g1.1, by have := g1.2; simp only [List.length_append]; omega⟩, by rw [rdo _ (old x g1)]; exact g2⟩
      · rw [h2, bk0, rd1, h1]
        exact ⟨⟨by omega, by simp; omega⟩, rfl⟩
      · rw [h2, bk1, rd0, h1]
        exact ⟨⟨by omega, by simp⟩, rfl⟩
    · intro i hi
      rw [inE]
      rcases split3 i hi with h1 | h1 | h1
      · rw [rdo i h1]; exact h.tgt i h1
      · rw [h1, rd0]; exact hbE
      · rw [h1, rd1]; exact ha
    · intro i hi
      rcases split3 i hi with h1 | h1 | h1
      · rw [rdo _ (old i h1)]
        exact (rows _ (h.tgt _ (old i h1)) i).2 (.inl (h.mem i h1))
      · rw [h1, bk0, rd1]
        exact (rows _ ha _).2 (.inr (.inl ⟨rfl, rfl⟩))
      · rw [h1, bk1, rd0]
        exact (rows _ hbE _).2 (.inr (.inr ⟨rfl, rfl⟩))
    · intro a haE
      have haE' := (inE a).1 haE
      have := rlen a haE'
      have := h.rl a haE'
      simp only [List.length_append, List.length_cons, List.length_nil]
      omega
    · refine ⟨by simp; exact hll, fun i hi => ?_, fun i hi => ?_⟩
      · rcases split3 i (inn i hi) with h1 | h1 | h1
        · rw [rlo i h1]; exact h.L.nn i ⟨h1.1, by rw [hll]; exact h1.2⟩
        · rw [h1, rl0]; exact c0
        · rw [h1, rl1]; exact Int.le_refl _
      · rcases split3 i (inn i hi) with h1 | h1 | h1
        · rw [rlo i h1, rlo _ (old i h1)]; exact h.L.pair i ⟨h1.1, by rw [hll]; exact h1.2⟩
        · rw [h1, bk0, rl0, rl1]; omega
        · rw [h1, bk1, rl0, rl1]; omega
  · simp
  · intro S
    unfold cutw
    rw [wsum_append, wsum_congr left (cf (tt ++ [e.f1, e.f0]) S) (cf tt S) (fun i hi => by
      have hit : inb (i : Int) tt := ⟨by omega, by rw [← hll]; omega⟩
      unfold cf
      rw [rdo _ hit, rdo _ (old _ hit)])]
    have hf0 : cf (tt ++ [e.f1, e.f0]) S (0 + left.length) = if S e.f0 = true ∧ S e.f1 = false then 1 else 0 := by
      unfold cf
      rw [Nat.zero_add, hll, bk0, rd1, rd0]
    simp only [wsum, hf0]
    split <;> simp
  · have h3 := h.rl _ ha
    have h4 := h.rl _ hbE
    rw [netStep, if_pos ⟨⟨ha, hbE⟩, by show (rowAt E e.f0).length < _; omega, by show (rowAt (addE E e.f0 (tt.length : Int)) e.f1).length < _; omega, by show tt.length < _; omega, by show left.length < _; omega⟩]
    show some (addE (addE E e.f0 (tt.length : Int)) e.f1 (wrap64 ((tt.length : Int) + 1)), tt ++ [e.f1, e.f0], left ++ [e.f2, 0]) = _
    rw [hw]
theorem netFold_ok {n : Nat} : ∀ (l : List S170) (E : List (List Int)) (tt left : List Int), (∀ e, e ∈ l → EOk n e) → NI n E tt left → tt.length + 2 * l.length ≤ 900000 →
    ∃ E' tt' left', netFold l (E, tt, left) = some (E', tt', left') ∧ NI n E' tt' left' ∧ tt'.length = tt.length + 2 * l.length ∧ ∀ S, cutw tt' S left' = cutw tt S left + capS S l
  | [], E, tt, left, _, h, _ => ⟨E, tt, left, rfl, h, by simp, fun S => by simp [capS]⟩
  | e :: l, E, tt, left, he, h, hb => by
    simp only [List.length_cons] at hb
    obtain ⟨E1, tt1, left1, f1, f2, f3, f4⟩ := netStep_ok h (he e (List.mem_cons_self ..)) (by omega)
    obtain ⟨E2, tt2, left2, g1, g2, g3, g4⟩ := netFold_ok l E1 tt1 left1 (fun x hx => he x (List.mem_cons_of_mem _ hx)) f2 (by omega)
    refine ⟨E2, tt2, left2, ?_, g2, by simp only [List.length_cons]; omega, fun S => ?_⟩
    · rw [netFold, f1, Option.bind_some]
      exact g1
    · rw [g4 S, f4 S]
      simp only [capS]
      omega
theorem net_ok {n : Nat} {l : List S170} (h2 : 2 ≤ n) (hn : n ≤ 1000) (hl : l.length ≤ 100000) (he : ∀ e, e ∈ l → EOk n e) :
    ∃ E tt left, net n l = some (E, tt, left) ∧ E.length = n ∧ Net E tt ∧ Lft tt left ∧ ∀ S, cutw tt S left = capS S l := by
  have h0 : NI n (List.replicate n []) [] [] := by
    have hr : ∀ a, rowAt (List.replicate n ([] : List Int)) a = [] := fun a => by
      rw [rowAt, List.getD_eq_getElem?_getD, List.getElem?_replicate]
      split <;> rfl
    have hno : ∀ i : Int, ¬ inb i ([] : List Int) := fun i hi => by have := hi.1; have := hi.2; simp at this; omega
    exact ⟨by simp, ⟨0, rfl⟩, fun a _ e he => (by rw [hr] at he; cases he), fun e he => absurd he (hno e), fun e he => absurd he (hno e), fun a _ => by rw [hr]; exact Nat.le_refl _, ⟨rfl, fun e he => absurd he (hno e), fun e he => absurd he (hno e)⟩⟩
  obtain ⟨E, tt, left, f1, f2, f3, f4⟩ := netFold_ok l _ _ _ he h0 (by simp; omega)
  have hE := f2.eL
  refine ⟨E, tt, left, ?_, hE, ⟨by omega, by omega, f2.ev, by simp at f3; omega, f2.row, f2.tgt, f2.mem, fun a => ?_⟩, f2.L, fun S => by rw [f4 S]; simp [cutw, wsum]⟩
  · unfold net
    rw [if_pos ⟨by omega, by omega⟩]
    exact f1
  · simp at f3
    have hbig : ∀ b, inb b E → (rowAt E b).length ≤ 2000000 := fun b hb => by have := f2.rl b hb; omega
    by_cases ha : inb a E
    · exact hbig a ha
    · by_cases h0 : 0 ≤ a
      · rw [row_out _ _ ha h0]; simp
      · have e_ : rowAt E a = rowAt E 0 := by rw [rowAt, rowAt, show a.toNat = (0 : Int).toNat by omega]
        rw [e_]
        exact hbig 0 ⟨Int.le_refl _, by omega⟩
end Go.Proofs.Ytclpjlaielphfaa.Flow
end
