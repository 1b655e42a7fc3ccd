/- Used by the claim's last text. -/
import Derived.Test.YtclpjlaielphfaaRseFlowR
import Derived.Test.YtclpjlaielphfaaRseFlowM
section
namespace Go.Proofs.Ytclpjlaielphfaa.Flow
open Go Go.RowKit Go.Proofs.YtclpjlaielphfaaW.PrintWords Go.Proofs.YtclpjlaielphfaaW.PrintLast Go.Proofs.YtclpjlaielphfaaW.PrintMore
set_option linter.unusedVariables false
set_option linter.unusedSimpArgs false
theorem wsum_nn : ∀ (l : List Int) (f : Nat → Int), (∀ i, 0 ≤ f i) → (∀ x, x ∈ l → 0 ≤ x) → 0 ≤ wsum f l
  | [], _, _, _ => Int.le_refl _
  | x :: l, f, hf, hl => by
    simp only [wsum]
    have h1 := Int.mul_nonneg (hf 0) (hl x (List.mem_cons_self ..))
    have h2 := wsum_nn l (fun i => f (i + 1)) (fun i => hf _) (fun y hy => hl y (List.mem_cons_of_mem _ hy))
    omega
theorem wsum_ge : ∀ (l : List Int) (f : Nat → Int), (∀ i, 0 ≤ f i) → (∀ x, x ∈ l → 0 ≤ x) → ∀ i, i < l.length → f i * l.getD i 0 ≤ wsum f l
  | [], _, _, _, _, h => by simp at h
  | x :: l, f, hf, hl, 0, _ => by
    simp only [wsum, List.getD_cons_zero]
    have h2 := wsum_nn l (fun i => f (i + 1)) (fun i => hf _) (fun y hy => hl y (List.mem_cons_of_mem _ hy))
    omega
  | x :: l, f, hf, hl, i + 1, h => by
    simp only [wsum, List.getD_cons_succ]
    have h1 := Int.mul_nonneg (hf 0) (hl x (List.mem_cons_self ..))
    have h2 := wsum_ge l (fun i => f (i + 1)) (fun i => hf _) (fun y hy => hl y (List.mem_cons_of_mem _ hy)) i (by simpa using h)
    omega
theorem wsum_zero : ∀ (l : List Int) (f : Nat → Int), (∀ i, i < l.length → f i * l.getD i 0 = 0) → wsum f l = 0
  | [], _, _ => rfl
  | x :: l, f, h => by
    have h1 := h 0 (by simp)
    rw [List.getD_cons_zero] at h1
    have h2 := wsum_zero l (fun i => f (i + 1)) (fun i hi => by have := h (i + 1) (by simpa using hi); rwa [List.getD_cons_succ] at this)
    simp only [wsum]
    omega
theorem cf_nn (tt : List Int) (S : Int → Bool) (i : Nat) : 0 ≤ cf tt S i := by unfold cf; split <;> omega
theorem mem_rd {l : List Int} {x : Int} (h : x ∈ l) : ∃ i, inb i l ∧ rd l i = x := by
  obtain ⟨i, hi, e⟩ := List.mem_iff_getElem.1 h
  exact ⟨(i : Int), ⟨by omega, by omega⟩, by rw [rd_nat l i hi, e]⟩
theorem Lft.all {tt left : List Int} (h : Lft tt left) : ∀ x, x ∈ left → 0 ≤ x := fun x hx => by
  obtain ⟨i, hi, e⟩ := mem_rd hx
  rw [← e]
  exact h.nn i hi
theorem cutw_nn {tt left : List Int} (h : Lft tt left) (S : Int → Bool) : 0 ≤ cutw tt S left := wsum_nn _ _ (cf_nn tt S) h.all
theorem cutw_pos {tt left : List Int} (h : Lft tt left) (S : Int → Bool) (e : Int) (he : inb e tt) (h1 : S (rd tt (back e)) = true) (h2 : S (rd tt e) = false) : rd left e ≤ cutw tt S left := by
  have he0 := he.1
  have he1 := he.2
  have h_ := wsum_ge left (cf tt S) (cf_nn tt S) h.all e.toNat (by rw [h.len]; omega)
  have h3 : cf tt S e.toNat = 1 := by
    unfold cf
    rw [Int.toNat_of_nonneg he0, if_pos ⟨h1, h2⟩]
  rw [h3, Int.one_mul] at h_
  exact h_
def S0 (b : Int) : Bool := decide (b = 0)
theorem dead_path {E : List (List Int)} {tt left V next : List Int} {I : List Bool} (hNet : Net E tt) (hL : Lft tt left) (hV : Lev E tt left I V) (hd : Dead E tt left V next) (h0 : Ex E next 0) :
    ∀ (m : Nat) (b : Int), inb b E → rdB I b = true → rd V b ≤ (m : Int) → Ex E next b := by
  intro m
  induction m with
  | zero =>
    intro b hb hI hm
    by_cases hb0 : b = 0
    · rw [hb0]; exact h0
    · obtain ⟨p, e, h1, h2, h3, h4, h5, h6⟩ := hV.pred b hb hI hb0
      have := (hV.v p h1).1
      omega
  | succ m ih =>
    intro b hb hI hm
    by_cases hb0 : b = 0
    · rw [hb0]; exact h0
    · obtain ⟨p, e, h1, h2, h3, h4, h5, h6⟩ := hV.pred b hb hI hb0
      have hp := ih p h1 h2 (by omega)
      obtain ⟨j, hj, hje⟩ := mem_rd h3
      have := hd p h1 j hj.1 (by have := hp.2; have := hj.2; omega) hj.2
      rw [hje] at this
      rcases this with h7 | h7 | h7
      · omega
      · rw [h5] at h7; exact absurd h6 h7
      · rw [h5] at h7; exact h7
theorem phase_ok {E : List (List Int)} {tt V : List Int} {I : List Bool} (hNet : Net E tt) (hV : LV E I V) (hI0 : rdB I 0 = true) (M : Nat) (hM : ∀ a, (rowAt E a).length ≤ M) : ∀ (t k : Nat) (sum : Int) (left next : List Int),
    (cutw tt S0 left).toNat ≤ t → 1001 * (M + 3) + 1 + t + 1 < k → Lft tt left → Nx E next → 0 ≤ sum → sum + cutw tt S0 left ≤ 4611686018427387904 →
    ∃ s' left' next', phase E tt V 1152921504606846976 k sum left next = some (s', left', next') ∧ phase E tt (sp I V) 1125899906842624 k sum left next = some (s', left', next') ∧ sum ≤ s' ∧ Lft tt left' ∧
      (∀ S : Int → Bool, S 0 = true → S ((E.length : Int) - 1) = false → cutw tt S left' = cutw tt S left - (s' - sum)) ∧ (Dead E tt left V next → Lev E tt left I V → rdB I ((E.length : Int) - 1) = true → sum < s') := by
  have hn2 := hNet.n2
  have h0E : inb (0 : Int) E := ⟨Int.le_refl _, by omega⟩
  have hS0 : S0 0 = true := rfl
  have hS1 : S0 ((E.length : Int) - 1) = false := by unfold S0; exact decide_eq_false (by omega)
  have hv0 := hV.v 0 h0E
  intro t
  induction t with
  | zero =>
    intro k sum left next ht hk hL hN hs hb
    obtain ⟨k, rfl⟩ : ∃ m, k = m + 1 := ⟨k - 1, by omega⟩
    obtain ⟨r, left', next', e1, e2, e3⟩ := push_ok hNet hV M hM 1001 0 h0E hI0 (by omega) k 1152921504606846976 left next (by omega) (by omega) hL hN
    have e3 := e3 1125899906842624 (.inr ⟨by omega, by omega, by omega⟩)
    have hc := e2.c S0 hS1
    rw [if_pos hS0] at hc
    have hnn := cutw_nn e2.L S0
    have hnn' := cutw_nn hL S0
    have hr0 := e2.r0
    have hr : r = 0 := by omega
    obtain ⟨z1, z2, z3, z4⟩ := e2.z hr
    refine ⟨sum, left', next', ?_, ?_, Int.le_refl _, e2.L, fun S hS0 hS1 => by rw [z1]; omega, fun hd hV' hI => ?_⟩
    · rw [phase, e1, Option.bind_some, if_pos hr]
    · rw [phase, e3, Option.bind_some, if_pos hr]
    · obtain ⟨d1, d2⟩ := z4 hd
      have hlI : inb ((E.length : Int) - 1) E := ⟨by omega, by omega⟩
      have := dead_path hNet hL hV' d1 d2 1000 _ hlI hI (hV.v _ hlI).2.1
      exact absurd rfl this.1
  | succ t ih =>
    intro k sum left next ht hk hL hN hs hb
    obtain ⟨k, rfl⟩ : ∃ m, k = m + 1 := ⟨k - 1, by omega⟩
    obtain ⟨r, left', next', e1, e2, e3⟩ := push_ok hNet hV M hM 1001 0 h0E hI0 (by omega) k 1152921504606846976 left next (by omega) (by omega) hL hN
    have e3 := e3 1125899906842624 (.inr ⟨by omega, by omega, by omega⟩)
    have hc := e2.c S0 hS1
    rw [if_pos hS0] at hc
    have hnn := cutw_nn e2.L S0
    have hnn' := cutw_nn hL S0
    have hr0 := e2.r0
    by_cases hr : r = 0
    · obtain ⟨z1, z2, z3, z4⟩ := e2.z hr
      refine ⟨sum, left', next', ?_, ?_, Int.le_refl _, e2.L, fun S hS0 hS1 => by rw [z1]; omega, fun hd hV' hI => ?_⟩
      · rw [phase, e1, Option.bind_some, if_pos hr]
      · rw [phase, e3, Option.bind_some, if_pos hr]
      · obtain ⟨d1, d2⟩ := z4 hd
        have hlI : inb ((E.length : Int) - 1) E := ⟨by omega, by omega⟩
        have := dead_path hNet hL hV' d1 d2 1000 _ hlI hI (hV.v _ hlI).2.1
        exact absurd rfl this.1
    · have hw : wrap64 (sum + r) = sum + r := wrap_id (by omega) (by omega)
      obtain ⟨s', left2, next2, f1, f2, f3, f4, f5, f6⟩ := ih k (sum + r) left' next' (by omega) (by omega) e2.L e2.N (by omega) (by omega)
      refine ⟨s', left2, next2, ?_, ?_, by omega, f4, fun S hS0 hS1 => ?_, fun _ _ _ => by omega⟩
      · rw [phase, e1, Option.bind_some, if_neg hr, hw]
        exact f1
      · rw [phase, e3, Option.bind_some, if_neg hr, hw]
        exact f2
      · rw [f5 S hS0 hS1, e2.c S hS1, if_pos hS0]
        omega
theorem run_ok {E : List (List Int)} {tt : List Int} (hNet : Net E tt) (M : Nat) (hM : ∀ a, (rowAt E a).length ≤ M) : ∀ (t k : Nat) (sum : Int) (left : List Int),
    (cutw tt S0 left).toNat ≤ t → 1001 * (M + 3) + t + 10 < k → Lft tt left → 0 ≤ sum → sum + cutw tt S0 left ≤ 4611686018427387904 →
    ∃ s' left' I V, runI E tt k sum left = some (s', left') ∧ runS E tt k sum left = some (s', left') ∧ Lft tt left' ∧
      (∀ S : Int → Bool, S 0 = true → S ((E.length : Int) - 1) = false → cutw tt S left' = cutw tt S left - (s' - sum)) ∧
      Lev E tt left' I V ∧ rdB I ((E.length : Int) - 1) = false ∧ (∃ k, fs k E tt left' = some (I, V)) ∧ (∃ k, lv k E tt left' = some (sp I V)) := by
  have hn2 := hNet.n2
  have hnM := hNet.nM
  have h0E : inb (0 : Int) E := ⟨Int.le_refl _, by omega⟩
  have hlE : inb ((E.length : Int) - 1) E := ⟨by omega, by omega⟩
  have hsink : wrap64 ((E.length : Int) - 1) = (E.length : Int) - 1 := wrap_id (by omega) (by omega)
  have hS0 : S0 0 = true := rfl
  have hS1 : S0 ((E.length : Int) - 1) = false := by unfold S0; exact decide_eq_false (by omega)
  intro t
  induction t with
  | zero =>
    intro k sum left ht hk hL hs hb
    obtain ⟨k, rfl⟩ : ∃ m, k = m + 1 := ⟨k - 1, by omega⟩
    obtain ⟨I, V, h1, h2, h3⟩ := fs_ok hNet hL.len k (by omega)
    have hIl : inb ((E.length : Int) - 1) I := ⟨hlE.1, by rw [h3.lI]; exact hlE.2⟩
    have hVl : inb ((E.length : Int) - 1) V := ⟨hlE.1, by rw [h3.lV]; exact hlE.2⟩
    have hIV : I.length = V.length := by rw [h3.lI, h3.lV]
    have hSl : inb ((E.length : Int) - 1) (sp I V) := ⟨hlE.1, by rw [sp_len hIV, h3.lV]; exact hlE.2⟩
    by_cases hm : rdB I ((E.length : Int) - 1) = true
    · obtain ⟨s', left', next', f1, f2, f3, f4, f5, f6⟩ := phase_ok hNet h3.lv h3.i0 M hM 0 k sum left (List.replicate E.length 0) ht (by omega) hL ⟨by simp, fun a ha => by rw [rd_rep _ _ _ ha.1 ha.2]; omega⟩ hs hb
      have := f6 (fun b hb j hj0 hj1 => by rw [rd_rep _ _ _ hb.1 hb.2] at hj1; omega) h3 hm
      have h4 := f5 S0 hS0 hS1
      have h5 := cutw_nn f4 S0
      have h6 := cutw_nn hL S0
      omega
    · refine ⟨sum, left, I, V, ?_, ?_, hL, fun S _ _ => by omega, h3, by simpa using hm, ⟨k, h1⟩, ⟨k, h2⟩⟩
      · rw [runI, h1, Option.bind_some, hsink, if_pos hIl, if_neg hm]
      · rw [runS, h2, Option.bind_some, hsink, if_pos hSl, sp_rd hIV _ hVl, if_neg hm, if_pos (by omega)]
  | succ t ih =>
    intro k sum left ht hk hL hs hb
    obtain ⟨k, rfl⟩ : ∃ m, k = m + 1 := ⟨k - 1, by omega⟩
    obtain ⟨I, V, h1, h2, h3⟩ := fs_ok hNet hL.len k (by omega)
    have hIl : inb ((E.length : Int) - 1) I := ⟨hlE.1, by rw [h3.lI]; exact hlE.2⟩
    have hVl : inb ((E.length : Int) - 1) V := ⟨hlE.1, by rw [h3.lV]; exact hlE.2⟩
    have hIV : I.length = V.length := by rw [h3.lI, h3.lV]
    have hSl : inb ((E.length : Int) - 1) (sp I V) := ⟨hlE.1, by rw [sp_len hIV, h3.lV]; exact hlE.2⟩
    by_cases hm : rdB I ((E.length : Int) - 1) = true
    · obtain ⟨s', left', next', f1, f2, f3, f4, f5, f6⟩ := phase_ok hNet h3.lv h3.i0 M hM (t + 1) k sum left (List.replicate E.length 0) ht (by omega) hL ⟨by simp, fun a ha => by rw [rd_rep _ _ _ ha.1 ha.2]; omega⟩ hs hb
      have hlt := f6 (fun b hb j hj0 hj1 => by rw [rd_rep _ _ _ hb.1 hb.2] at hj1; omega) h3 hm
      have h4 := f5 S0 hS0 hS1
      have h5 := cutw_nn f4 S0
      have h6 := cutw_nn hL S0
      obtain ⟨s2, left2, I2, V2, g1, g2, g3, g4, g5, g6, g7, g8⟩ := ih k s' left' (by omega) (by omega) f4 (by omega) (by omega)
      refine ⟨s2, left2, I2, V2, ?_, ?_, g3, fun S hS0 hS1 => by rw [g4 S hS0 hS1, f5 S hS0 hS1]; omega, g5, g6, g7, g8⟩
      · rw [runI, h1, Option.bind_some, hsink, if_pos hIl, if_pos hm, f1, Option.bind_some]
        exact g1
      · rw [runS, h2, Option.bind_some, hsink, if_pos hSl, sp_rd hIV _ hVl, if_pos hm, if_neg (by have := (h3.v _ hlE).1; omega), f2, Option.bind_some]
        exact g2
    · refine ⟨sum, left, I, V, ?_, ?_, hL, fun S _ _ => by omega, h3, by simpa using hm, ⟨k, h1⟩, ⟨k, h2⟩⟩
      · rw [runI, h1, Option.bind_some, hsink, if_pos hIl, if_neg hm]
      · rw [runS, h2, Option.bind_some, hsink, if_pos hSl, sp_rd hIV _ hVl, if_neg hm, if_pos (by omega)]
theorem flow_ok {E : List (List Int)} {tt left : List Int} (hNet : Net E tt) (hL : Lft tt left) (hb : cutw tt S0 left ≤ 4611686018427387904) :
    ∃ s left' I V, (∃ k, runI E tt k 0 left = some (s, left')) ∧ (∃ k, runS E tt k 0 left = some (s, left')) ∧ (∃ k, fs k E tt left' = some (I, V)) ∧ (∃ k, lv k E tt left' = some (sp I V)) ∧
      I.length = E.length ∧ V.length = E.length ∧ (∀ b, inb b E → 0 ≤ rd V b) ∧ rdB I 0 = true ∧ rdB I ((E.length : Int) - 1) = false ∧ cutw tt (rdB I) left = s ∧
      ∀ S : Int → Bool, S 0 = true → S ((E.length : Int) - 1) = false → s ≤ cutw tt S left ∧ (cutw tt S left = s → ∀ b, inb b E → rdB I b = true → S b = true) := by
  obtain ⟨M, hM⟩ : ∃ M, ∀ a, (rowAt E a).length ≤ M := ⟨2000000, hNet.rl⟩
  obtain ⟨s, left', I, V, h1, h2, h3, h4, h5, h6, h7, h8⟩ := run_ok hNet M hM _ (1001 * (M + 3) + (cutw tt S0 left).toNat + 11) 0 left (Nat.le_refl _) (by omega) hL (Int.le_refl _) (by omega)
  have hn2 := hNet.n2
  refine ⟨s, left', I, V, ⟨_, h1⟩, ⟨_, h2⟩, h7, h8, h5.lI, h5.lV, fun b hb => (h5.v b hb).1, h5.i0, h6, ?_, fun S hS0 hS1 => ⟨?_, fun he => ?_⟩⟩
  · have hc := h4 (rdB I) h5.i0 h6
    have hz : cutw tt (rdB I) left' = 0 := by
      refine wsum_zero _ _ fun i hi => ?_
      unfold cf
      split
      · rename_i hc
        have hit : inb (i : Int) tt := ⟨by omega, by rw [← h3.len]; omega⟩
        have hil : inb (i : Int) left' := ⟨by omega, by omega⟩
        have hbk := back_inb hNet.ev hNet.tM hit
        have hnp : ¬ 0 < rd left' (i : Int) := fun hp => by
          have := h5.cl _ (hNet.tgt _ hbk.1) hc.1 (i : Int) (hNet.mem _ hit) hp
          rw [hc.2] at this
          cases this
        have hnn := h3.nn _ hil
        have hrd : left'.getD i 0 = rd left' (i : Int) := by rw [rd, Int.toNat_natCast]
        rw [hrd]
        omega
      · exact Int.zero_mul _
    omega
  · have := h4 S hS0 hS1
    have := cutw_nn h3 S
    omega
  · have hz : cutw tt S left' = 0 := by have := h4 S hS0 hS1; omega
    have key : ∀ (m : Nat) (b : Int), inb b E → rdB I b = true → rd V b ≤ (m : Int) → S b = true := by
      intro m
      induction m with
      | zero =>
        intro b hb hI hm
        by_cases hb0 : b = 0
        · rw [hb0]; exact hS0
        · obtain ⟨p, e, g1, g2, g3, g4, g5, g6⟩ := h5.pred b hb hI hb0
          have := (h5.v p g1).1
          omega
      | succ m ih =>
        intro b hb hI hm
        by_cases hb0 : b = 0
        · rw [hb0]; exact hS0
        · obtain ⟨p, e, g1, g2, g3, g4, g5, g6⟩ := h5.pred b hb hI hb0
          have hp := ih p g1 g2 (by omega)
          obtain ⟨k1, k2⟩ := hNet.row p g1 e g3
          cases hSb : S b with
          | true => rfl
          | false =>
            have := cutw_pos h3 S e k1 (by rw [k2]; exact hp) (by rw [g5]; exact hSb)
            omega
    intro b hb hI
    exact key 1000 b hb hI (h5.v b hb).2.1
end Go.Proofs.Ytclpjlaielphfaa.Flow
end
