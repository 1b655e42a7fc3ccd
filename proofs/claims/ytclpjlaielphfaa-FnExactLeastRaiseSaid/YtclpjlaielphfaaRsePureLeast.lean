/- Used by the claim's last text. -/
import Derived.Test.YtclpjlaielphfaaRsePureGainOf
import Derived.Test.YtclpjlaielphfaaRsePFx10
section
namespace Go.Proofs.Ytclpjlaielphfaa.Pure
open Go Go.RowKit Go.Proofs.YtclpjlaielphfaaW.PrintWords Go.Proofs.YtclpjlaielphfaaW.PrintLast Go.Proofs.YtclpjlaielphfaaW.PrintMore Go.Proofs.Ytclpjlaielphfaa.PF Go.Proofs.Ytclpjlaielphfaa.Flow
set_option linter.unusedVariables false
set_option linter.unusedSimpArgs false
theorem has_ok (ys : List Int) (x : Int) (hl : ys.length ≤ 4611686018427387904) : Ev (fun k => spec_l1Has.f k ys x) (decide (x ∈ ys)) := by
  have loop : ∀ (d j : Nat), j + d = ys.length → Ev (fun k => spec_l1Has.l0 k x ys (ys.length : Int) (j : Int)) (decide (x ∈ ys.drop j)) := by
    intro d
    induction d with
    | zero =>
      intro j h1
      refine Ev.step (f := fun _ => some (decide (x ∈ ys.drop j))) (fun k => ?_) (Ev.now _)
      rw [spec_l1Has.l0, if_neg (by omega), List.drop_eq_nil_of_le (by omega)]
      rfl
    | succ d ih =>
      intro j h1
      have hj : j < ys.length := by omega
      have hj1 : (j : Int) + 1 = ((j + 1 : Nat) : Int) := by omega
      rw [List.drop_eq_getElem_cons hj]
      by_cases he : ys[j] = x
      · rw [decide_eq_true (by rw [he]; exact List.mem_cons_self ..)]
        refine Ev.step (f := fun _ => some true) (fun k => ?_) (Ev.now _)
        rw [spec_l1Has.l0, if_pos (by omega), if_pos (by omega), if_pos (by omega), rd_nat ys j hj, if_pos he]
      · rw [show decide (x ∈ ys[j] :: ys.drop (j + 1)) = decide (x ∈ ys.drop (j + 1)) from decide_eq_decide.2 ⟨fun h => (List.mem_cons.1 h).elim (fun h_ => absurd h_.symm he) id, List.mem_cons_of_mem _⟩]
        refine Ev.step (fun k => ?_) (ih (j + 1) (by omega))
        rw [spec_l1Has.l0, if_pos (by omega), if_pos (by omega), if_pos (by omega), rd_nat ys j hj, if_neg he, wrap_id (x := (j : Int) + 1) (by omega) (by omega), hj1]
  have := loop ys.length 0 (by omega)
  exact Ev.congr (fun k => by rw [spec_l1Has.f]; rfl) this
theorem bt_set (M : List Bool) (i x : Nat) (b : Bool) (hi : i < M.length) : bt_ (M.set i b) x = if x = i then b else bt_ M x := by
  unfold bt_
  rw [List.getD_eq_getElem?_getD, List.getElem?_set]
  by_cases h : i = x
  · subst h; rw [if_pos rfl, if_pos rfl, if_pos hi]; rfl
  · rw [if_neg h, if_neg (Ne.symm h), List.getD_eq_getElem?_getD]
theorem bt_rd (M : List Bool) (x : Nat) : rdOf false M (x : Int) = bt_ M x := by rw [rdOf, Int.toNat_natCast, bt_]
theorem markOf_ok (n a : Nat) (ha : a < n) (hn : n ≤ 1000) : Ev (fun k => impl_markOf.f k (n : Int) [(a : Int)]) ((List.replicate n false).set a true) := by
  refine Ev.congr (f := fun k => impl_markOf.l0 k (List.replicate n false) [(a : Int)] 1 0) (fun k => ?_) (Ev.step (f := fun k => impl_markOf.l0 k ((List.replicate n false).set a true) [(a : Int)] 1 1) (fun k => ?_) (Ev.step (f := fun _ => some ((List.replicate n false).set a true)) (fun k => ?_) (Ev.now _)))
  · rw [impl_markOf.f, if_pos (by omega), if_pos (by omega), Int.toNat_natCast]; rfl
  · have : rd [(a : Int)] 0 = (a : Int) := rfl
    rw [impl_markOf.l0, if_pos (by omega), if_pos (by omega), if_pos (by simp), this, if_pos (by omega), if_pos (by simp; omega), Int.toNat_natCast, wrap_id (x := (0 : Int) + 1) (by omega) (by omega)]
    rfl
  · rw [impl_markOf.l0, if_neg (by omega)]
theorem bt_start (n a x : Nat) (ha : a < n) : bt_ ((List.replicate n false).set a true) x = decide (x = a) := by
  rw [bt_set _ _ _ _ (by simpa using ha)]
  by_cases h : x = a
  · rw [if_pos h, decide_eq_true h]
  · rw [if_neg h, decide_eq_false h, bt_, List.getD_eq_getElem?_getD, List.getElem?_replicate]
    split <;> rfl
def setAll (M : List Bool) (ks : List Int) : List Bool := ks.foldl (fun M k => M.set k.toNat true) M
theorem setAll_len : ∀ (ks : List Int) (M : List Bool), (setAll M ks).length = M.length
  | [], M => rfl
  | k :: ks, M => by
    have := setAll_len ks (M.set k.toNat true)
    rw [List.length_set] at this
    exact this
theorem setAll_bt : ∀ (ks : List Int) (M : List Bool) (x : Nat), (∀ k, k ∈ ks → k.toNat < M.length) → (bt_ (setAll M ks) x = true ↔ bt_ M x = true ∨ ∃ k, k ∈ ks ∧ k.toNat = x)
  | [], M, x, _ => by simp [setAll]
  | k :: ks, M, x, h => by
    have ih := setAll_bt ks (M.set k.toNat true) x (fun q hq => by rw [List.length_set]; exact h q (List.mem_cons_of_mem _ hq))
    have e : setAll M (k :: ks) = setAll (M.set k.toNat true) ks := rfl
    rw [e, ih, bt_set _ _ _ _ (h k (List.mem_cons_self ..))]
    constructor
    · rintro (h1 | ⟨q, h1, h2⟩)
      · by_cases hx : x = k.toNat
        · exact .inr ⟨k, List.mem_cons_self .., hx.symm⟩
        · rw [if_neg hx] at h1; exact .inl h1
      · exact .inr ⟨q, List.mem_cons_of_mem _ h1, h2⟩
    · rintro (h1 | ⟨q, h1, h2⟩)
      · left; by_cases hx : x = k.toNat
        · rw [if_pos hx]
        · rw [if_neg hx]; exact h1
      · rcases List.mem_cons.1 h1 with h3 | h3
        · left; rw [if_pos (by rw [← h2, h3])]
        · exact .inr ⟨q, h3, h2⟩
section
variable {l : List (List Int)} (hA : Arcs l) (a : Nat) (ha : a < l.length)
include hA ha
theorem closureOf_ok : ∃ C, Ev (fun k => impl_closureOf.f k l [(a : Int)]) C ∧ C.length = l.length ∧ bt_ C a = true ∧ Closed l (bt_ C) ∧ ∀ Q, Closed l Q → Q a = true → ∀ x, x < l.length → bt_ C x = true → Q x = true := by
  have hn2 := hA.n2
  have inner : ∀ (i : Nat) (hi : i < l.length) (d j : Nat) (M : List Bool), j + d = (rd_L1 l (i : Int)).length → M.length = l.length → ∀ r, Ev (fun k => impl_closureOf.l0 k l (setAll M ((rd_L1 l (i : Int)).drop j)) ((i : Int) - 1)) r →
      Ev (fun k => impl_closureOf.l1 k l M (i : Int) (rd_L1 l (i : Int)) ((rd_L1 l (i : Int)).length : Int) (j : Int)) r := by
    intro i hi d
    induction d with
    | zero =>
      intro j M h1 hM r hr
      rw [List.drop_eq_nil_of_le (by omega)] at hr
      refine Ev.step (fun k => ?_) hr
      rw [impl_closureOf.l1, if_neg (by omega), wrap_id (x := (i : Int) - 1) (by omega) (by omega)]
      rfl
    | succ d ih =>
      intro j M h1 hM r hr
      have hrl := (hA.row hi).1
      have hj : j < (rd_L1 l (i : Int)).length := by omega
      have hk := (hA.row hi).2 _ (List.getElem_mem hj)
      have hj1 : (j : Int) + 1 = ((j + 1 : Nat) : Int) := by omega
      rw [List.drop_eq_getElem_cons hj] at hr
      refine Ev.step (fun k => ?_) (ih (j + 1) (M.set ((rd_L1 l (i : Int))[j]).toNat true) (by omega) (by rw [List.length_set]; exact hM) r hr)
      rw [impl_closureOf.l1, if_pos (by omega), if_pos (by omega), if_pos (by omega), rd_nat _ j hj, if_pos hk.1, if_pos (by omega), wrap_id (x := (j : Int) + 1) (by omega) (by omega), hj1]
  have outer : ∀ (i : Nat) (M : List Bool), i ≤ l.length → M.length = l.length → bt_ M a = true → (∀ Q, Closed l Q → Q a = true → ∀ x, x < l.length → bt_ M x = true → Q x = true) → (∀ j, i ≤ j → j < l.length → bt_ M j = true → ∀ k, k ∈ rd_L1 l (j : Int) → bt_ M k.toNat = true) →
      ∃ C, Ev (fun k => impl_closureOf.l0 k l M ((i : Int) - 1)) C ∧ C.length = l.length ∧ bt_ C a = true ∧ Closed l (bt_ C) ∧ ∀ Q, Closed l Q → Q a = true → ∀ x, x < l.length → bt_ C x = true → Q x = true := by
    intro i
    induction i with
    | zero =>
      intro M hi hM h1 h2 h3
      refine ⟨M, Ev.step (f := fun _ => some M) (fun k => ?_) (Ev.now _), hM, h1, fun j hj => h3 j (Nat.zero_le _) hj, h2⟩
      rw [impl_closureOf.l0, if_neg (by omega)]
    | succ i ih =>
      intro M hi hM h1 h2 h3
      have hii : i < l.length := by omega
      have hrl := (hA.row hii).1
      have hrow := (hA.row hii).2
      rw [show ((i + 1 : Nat) : Int) - 1 = (i : Int) by omega]
      by_cases hb : bt_ M i = true
      · have hset := setAll_bt (rd_L1 l (i : Int)) M
        have hks : ∀ k, k ∈ rd_L1 l (i : Int) → k.toNat < M.length := fun k hk => by have := hrow k hk; omega
        obtain ⟨C, c1, c2⟩ := ih (setAll M (rd_L1 l (i : Int))) (by omega) (by rw [setAll_len]; exact hM) ((hset a hks).2 (.inl h1)) (fun Q hQ hQa x hx hx2 => by
          rcases (hset x hks).1 hx2 with h4 | ⟨k, h4, h5⟩
          · exact h2 Q hQ hQa x hx h4
          · rw [← h5]; exact hQ i hii (h2 Q hQ hQa i hii hb) k h4) (fun j hj hj2 hj3 k hk => by
          by_cases hji : j = i
          · subst hji; exact (hset _ hks).2 (.inr ⟨k, hk, rfl⟩)
          · rcases (hset j hks).1 hj3 with h4 | ⟨q, h4, h5⟩
            · exact (hset _ hks).2 (.inl (h3 j (by omega) hj2 h4 k hk))
            · have := hrow q h4; omega)
        refine ⟨C, Ev.step (f := fun k => impl_closureOf.l1 k l M (i : Int) (rd_L1 l (i : Int)) ((rd_L1 l (i : Int)).length : Int) 0) (fun k => ?_) (inner i hii (rd_L1 l (i : Int)).length 0 M (by omega) hM C (by rw [List.drop_zero]; exact c1)), c2⟩
        rw [impl_closureOf.l0, if_pos (by omega), if_pos (by omega), if_pos (by omega), bt_rd, if_pos hb, if_pos (by omega)]
      · obtain ⟨C, c1, c2⟩ := ih M (by omega) hM h1 h2 (fun j hj hj2 hj3 k hk => by
          by_cases hji : j = i
          · subst hji; exact absurd hj3 hb
          · exact h3 j (by omega) hj2 hj3 k hk)
        refine ⟨C, Ev.step (fun k => ?_) c1, c2⟩
        rw [impl_closureOf.l0, if_pos (by omega), if_pos (by omega), if_pos (by omega), bt_rd, if_neg hb, wrap_id (x := (i : Int) - 1) (by omega) (by omega)]
  obtain ⟨C, c1, c2⟩ := outer l.length ((List.replicate l.length false).set a true) (Nat.le_refl _) (by simp) (by rw [bt_start _ _ _ ha]; exact decide_eq_true rfl) (fun Q hQ hQa x hx hx2 => by
    rw [bt_start _ _ _ ha] at hx2
    rw [of_decide_eq_true hx2]; exact hQa) (fun j hj hj2 => by omega)
  refine ⟨C, ?_, c2⟩
  refine Ev.congr (fun k => by rw [impl_closureOf.f, wrap_id (x := (l.length : Int) - 1) (by omega) (by omega)]) (Ev.bind (markOf_ok l.length a ha (by omega)) ?_)
  exact c1
theorem belowOf_ok : ∃ D, Ev (fun k => impl_belowOf.f k l (a : Int)) D ∧ D.length = l.length ∧ bt_ D a = true ∧ ∀ Q, Closed l Q → ∀ x, x < l.length → bt_ D x = true → Q x = true → Q a = true := by
  have hn2 := hA.n2
  have inner : ∀ (i : Nat) (hi : i < l.length) (hai : a < i) (d j : Nat) (M : List Bool), j + d = (rd_L1 l (i : Int)).length → M.length = l.length → bt_ M a = true → (∀ Q, Closed l Q → ∀ x, x < l.length → bt_ M x = true → Q x = true → Q a = true) →
      ∃ M', M'.length = l.length ∧ bt_ M' a = true ∧ (∀ Q, Closed l Q → ∀ x, x < l.length → bt_ M' x = true → Q x = true → Q a = true) ∧ ∀ r, Ev (fun k => impl_belowOf.l0 k l M' ((i : Int) + 1)) r →
        Ev (fun k => impl_belowOf.l1 k l M (i : Int) (rd_L1 l (i : Int)) ((rd_L1 l (i : Int)).length : Int) (j : Int)) r := by
    intro i hi hai d
    induction d with
    | zero =>
      intro j M h1 hM m1 m2
      refine ⟨M, hM, m1, m2, fun r hr => Ev.step (fun k => ?_) hr⟩
      rw [impl_belowOf.l1, if_neg (by omega), wrap_id (x := (i : Int) + 1) (by omega) (by omega)]
    | succ d ih =>
      intro j M h1 hM m1 m2
      have hrl := (hA.row hi).1
      have hj : j < (rd_L1 l (i : Int)).length := by omega
      have hk := (hA.row hi).2 _ (List.getElem_mem hj)
      have hj1 : (j : Int) + 1 = ((j + 1 : Nat) : Int) := by omega
      have hiM : i < M.length := by omega
      by_cases hb : bt_ M i = true
      · obtain ⟨M', g1, g2, g3, g4⟩ := ih (j + 1) (M.set i true) (by omega) (by rw [List.length_set]; exact hM) (by rw [bt_set _ _ _ _ hiM]; split <;> simp_all) (fun Q hQ x hx hx2 hx3 => by
          rw [bt_set _ _ _ _ hiM] at hx2
          by_cases hxi : x = i
          · subst hxi; exact m2 Q hQ x hx hb hx3
          · rw [if_neg hxi] at hx2; exact m2 Q hQ x hx hx2 hx3)
        refine ⟨M', g1, g2, g3, fun r hr => Ev.step (fun k => ?_) (g4 r hr)⟩
        rw [impl_belowOf.l1, if_pos (by omega), if_pos (by omega), if_pos (by omega), if_pos (by omega), if_pos (by omega), bt_rd, if_pos hb, wrap_id (x := (j : Int) + 1) (by omega) (by omega), hj1, Int.toNat_natCast]
      · have hkb : rdOf false M (rd_L1 l (i : Int))[j] = bt_ M ((rd_L1 l (i : Int))[j]).toNat := by rw [rdOf, bt_]
        obtain ⟨M', g1, g2, g3, g4⟩ := ih (j + 1) (M.set i (bt_ M ((rd_L1 l (i : Int))[j]).toNat)) (by omega) (by rw [List.length_set]; exact hM) (by rw [bt_set _ _ _ _ hiM, if_neg (by omega)]; exact m1) (fun Q hQ x hx hx2 hx3 => by
          rw [bt_set _ _ _ _ hiM] at hx2
          by_cases hxi : x = i
          · subst hxi
            rw [if_pos rfl] at hx2
            exact m2 Q hQ _ (by omega) hx2 (hQ x hx hx3 _ (List.getElem_mem hj))
          · rw [if_neg hxi] at hx2; exact m2 Q hQ x hx hx2 hx3)
        refine ⟨M', g1, g2, g3, fun r hr => Ev.step (fun k => ?_) (g4 r hr)⟩
        rw [impl_belowOf.l1, if_pos (by omega), if_pos (by omega), if_pos (by omega), if_pos (by omega), if_pos (by omega), bt_rd, if_neg hb, rd_nat _ j hj, if_pos hk.1, if_pos (by omega), hkb, wrap_id (x := (j : Int) + 1) (by omega) (by omega), hj1, Int.toNat_natCast]
  have outer : ∀ (d i : Nat) (M : List Bool), i + d = l.length → a < i → M.length = l.length → bt_ M a = true → (∀ Q, Closed l Q → ∀ x, x < l.length → bt_ M x = true → Q x = true → Q a = true) →
      ∃ D, Ev (fun k => impl_belowOf.l0 k l M (i : Int)) D ∧ D.length = l.length ∧ bt_ D a = true ∧ ∀ Q, Closed l Q → ∀ x, x < l.length → bt_ D x = true → Q x = true → Q a = true := by
    intro d
    induction d with
    | zero =>
      intro i M hi hai hM h1 h2
      refine ⟨M, Ev.step (f := fun _ => some M) (fun k => ?_) (Ev.now _), hM, h1, h2⟩
      rw [impl_belowOf.l0, if_neg (by omega)]
    | succ d ih =>
      intro i M hi hai hM h1 h2
      have hii : i < l.length := by omega
      obtain ⟨M', g1, g2, g3, g4⟩ := inner i hii hai (rd_L1 l (i : Int)).length 0 M (by omega) hM h1 h2
      obtain ⟨D, d1, d2⟩ := ih (i + 1) M' (by omega) (by omega) g1 g2 g3
      refine ⟨D, Ev.step (f := fun k => impl_belowOf.l1 k l M (i : Int) (rd_L1 l (i : Int)) ((rd_L1 l (i : Int)).length : Int) 0) (fun k => ?_) (g4 D (by rw [show (i : Int) + 1 = ((i + 1 : Nat) : Int) by omega]; exact d1)), d2⟩
      rw [impl_belowOf.l0, if_pos (by omega), if_pos (by omega)]
  obtain ⟨D, d1, d2⟩ := outer (l.length - (a + 1)) (a + 1) ((List.replicate l.length false).set a true) (by omega) (by omega) (by simp) (by rw [bt_start _ _ _ ha]; exact decide_eq_true rfl) (fun Q hQ x hx hx2 hx3 => by
    rw [bt_start _ _ _ ha] at hx2
    rw [← of_decide_eq_true hx2]; exact hx3)
  refine ⟨D, ?_, d2⟩
  refine Ev.congr (fun k => by rw [impl_belowOf.f, wrap_id (x := (a : Int) + 1) (by omega) (by omega), show (a : Int) + 1 = ((a + 1 : Nat) : Int) by omega]) (Ev.bind (markOf_ok l.length a ha (by omega)) ?_)
  exact d1
end
theorem valP_rel : ∀ (u v w : List Int) (i : Nat) (P Q R : Nat → Bool), v.length = u.length → w.length = u.length → (∀ m : Nat, m < u.length → (if P (i + m) = true then rd u (m : Int) else 0) = (if Q (i + m) = true then rd v (m : Int) else 0) + (if R (i + m) = true then rd w (m : Int) else 0)) →
    valP P i u = valP Q i v + valP R i w
  | [], [], [], _, _, _, _, _, _, _ => rfl
  | x :: u, y :: v, z :: w, i, P, Q, R, h1, h2, h => by
    have ih := valP_rel u v w (i + 1) P Q R (by simpa using h1) (by simpa using h2) (fun m hm => by
      have := h (m + 1) (by simpa using hm)
      rw [show i + (m + 1) = i + 1 + m by omega, rd_nat _ (m + 1) (by simpa using hm), rd_nat _ (m + 1) (by simp at h1 ⊢; omega), rd_nat _ (m + 1) (by simp at h2 ⊢; omega)] at this
      simp only [List.getElem_cons_succ] at this
      rw [rd_nat u m hm, rd_nat v m (by simp at h1; omega), rd_nat w m (by simp at h2; omega)]
      exact this)
    have h0 := h 0 (by simp)
    rw [Nat.add_zero, rd_nat _ 0 (by simp), rd_nat _ 0 (by simp), rd_nat _ 0 (by simp)] at h0
    simp only [List.getElem_cons_zero] at h0
    simp only [valP, ih, h0]
    omega
  | [], _ :: _, _, _, _, _, _, h, _, _ => by simp at h
  | _ :: _, [], _, _, _, _, _, h, _, _ => by simp at h
  | [], [], _ :: _, _, _, _, _, _, h, _ => by simp at h
  | _ :: _, _ :: _, [], _, _, _, _, _, h, _ => by simp at h
theorem valP_same (u v : List Int) (P Q : Nat → Bool) (hl : v.length = u.length) (h : ∀ m : Nat, m < u.length → (if P m = true then rd u (m : Int) else 0) = (if Q m = true then rd v (m : Int) else 0)) : valP P 0 u = valP Q 0 v := by
  have := valP_rel u v v 0 P Q (fun _ => false) hl hl (fun m hm => by rw [Nat.zero_add, h m hm]; simp)
  rw [valP_none, Int.add_zero] at this
  exact this
theorem valP_low : ∀ (w : List Int) (i x : Nat) (P : Nat → Bool), x < w.length → P (i + x) = true → rd w (x : Int) = -1000000000 → (∀ y, y ∈ w → y ≤ 1000000) → valP P i w ≤ -1000000000 + 1000000 * (w.length : Int)
  | [], _, _, _, h, _, _, _ => by simp at h
  | y :: w, i, x, P, hx, hp, hr, hy => by
    have up : ∀ (w : List Int) (i : Nat), (∀ y, y ∈ w → y ≤ 1000000) → valP P i w ≤ 1000000 * (w.length : Int) := by
      intro w
      induction w with
      | nil => intro i _; simp [valP]
      | cons z w ih =>
        intro i h
        have h1 := ih (i + 1) (fun q hq => h q (List.mem_cons_of_mem _ hq))
        have h2 := h z (List.mem_cons_self ..)
        simp only [valP, List.length_cons]
        split <;> omega
    have h1 := hy y (List.mem_cons_self ..)
    cases x with
    | zero =>
      have hr' : y = -1000000000 := hr
      have := up w (i + 1) (fun q hq => hy q (List.mem_cons_of_mem _ hq))
      simp only [valP, List.length_cons]
      rw [if_pos (by rw [Nat.add_zero] at hp; exact hp), hr']
      omega
    | succ x =>
      have ih := valP_low w (i + 1) x P (by simpa using hx) (by rw [show i + 1 + x = i + (x + 1) by omega]; exact hp) (by
        rw [rd_nat _ (x + 1) hx] at hr
        rw [rd_nat _ x (by simpa using hx)]
        simpa using hr) (fun q hq => hy q (List.mem_cons_of_mem _ hq))
      simp only [valP, List.length_cons]
      split <;> omega
theorem bt_out (W B : List Bool) (i : Nat) (hi : i < B.length) : bt_ (outL W B) i = (bt_ B i || bt_ W i) := by
  unfold bt_
  rw [List.getD_eq_getElem?_getD, List.getElem?_eq_getElem (by rw [outL_len]; exact hi), List.getD_eq_getElem?_getD, List.getElem?_eq_getElem hi]
  simp [outL]
structure Both (l : List (List Int)) (v : List Int) (a : Nat) (w x : Int) : Prop where
  w1 : ∀ Q, Closed l Q → Q a = true → valP Q 0 v ≤ w
  w2 : ∃ Q, Closed l Q ∧ Q a = true ∧ valP Q 0 v = w
  x1 : ∀ Q, Closed l Q → Q a = false → valP Q 0 v ≤ x
  x2 : ∃ Q, Closed l Q ∧ Q a = false ∧ valP Q 0 v = x
section
variable {l : List (List Int)} {v : List Int} (hA : Arcs l) (hv : v.length = l.length) (hV : Vals v) (a : Nat) (ha : a < l.length)
include hA hv hV ha
theorem bestWith_ok : ∃ w x, Ev (fun k => impl_bestWith.f k l v (a : Int)) (w, x) ∧ Both l v a w x := by
  have hn2 := hA.n2
  obtain ⟨C, c1, c2, c3, c4, c5⟩ := closureOf_ok hA a ha
  obtain ⟨D, d1, d2, d3, d4⟩ := belowOf_ok hA a ha
  obtain ⟨B, b1, b2⟩ := bestPit_ok C [] hA hv (vals_b hV) (.inr c2) (.inl rfl)
  obtain ⟨N, n1, n2⟩ := bestPit_ok [] D hA hv (vals_b hV) (.inl rfl) (.inr d2)
  rw [outL_nil] at n2
  have hBl := b1.len
  have hNl := n1.len
  have hOl : (outL C B).length = l.length := by rw [outL_len]; exact hBl
  have frC : ∀ m : Nat, m < v.length → rd (freeL C [] v) (m : Int) = if bt_ C m = true then 0 else rd v (m : Int) := fun m hm => by
    rw [free_rd C [] v m hm]
    simp [freeAt, bt_]
  have frD : ∀ m : Nat, m < v.length → rd (freeL [] D v) (m : Int) = if bt_ D m = true then -1000000000 else rd v (m : Int) := fun m hm => by
    rw [free_rd [] D v m hm]
    simp [freeAt, bt_]
  have wval : ∀ Q, (∀ x, x < l.length → bt_ C x = true → Q x = true) → valP Q 0 v = valP (bt_ C) 0 v + valP Q 0 (freeL C [] v) := fun Q hQ => by
    refine valP_rel v v (freeL C [] v) 0 Q (bt_ C) Q rfl (freeL_len _ _ _) (fun m hm => ?_)
    rw [Nat.zero_add, frC m hm]
    have := hQ m (by omega)
    by_cases h1 : bt_ C m = true
    · rw [if_pos h1, if_pos h1, if_pos (this h1), if_pos (this h1)]; omega
    · rw [if_neg h1, if_neg h1]; omega
  have hCO : ∀ x, x < l.length → bt_ C x = true → bt_ (outL C B) x = true := fun x hx h => by rw [bt_out C B x (by omega), h]; simp
  have hclO : Closed l (bt_ (outL C B)) := fun i hi hp k hk => by
    have hkk := (hA.row hi).2 k hk
    rw [bt_out C B i (by omega)] at hp
    rw [bt_out C B _ (by omega)]
    rcases Bool.or_eq_true_iff.1 hp with h | h
    · rw [b1.closed i hi h k hk]; rfl
    · rw [c4 i hi h k hk]; simp
  have hOfree : valP (bt_ (outL C B)) 0 (freeL C [] v) = valP (bt_ B) 0 (freeL C [] v) := by
    refine valP_same _ _ _ _ rfl (fun m hm => ?_)
    rw [freeL_len] at hm
    rw [frC m hm, bt_out C B m (by omega)]
    cases bt_ B m <;> cases bt_ C m <;> simp
  have hW := wval _ hCO
  rw [hOfree] at hW
  have xval : ∀ Q, (∀ x, x < l.length → bt_ D x = true → Q x = false) → valP Q 0 (freeL [] D v) = valP Q 0 v := fun Q hQ => by
    refine valP_same _ _ _ _ (by rw [freeL_len]) (fun m hm => ?_)
    rw [freeL_len] at hm
    rw [frD m hm]
    by_cases h1 : bt_ D m = true
    · rw [hQ m (by omega) h1]; rfl
    · rw [if_neg h1]
  have hup : ∀ y, y ∈ freeL [] D v → y ≤ 1000000 := fun y hy => by
    obtain ⟨i, hi, e⟩ := mem_val hy
    rw [freeL_len] at hi
    rw [← e, frD i hi]
    have := hV.r i hi
    split <;> omega
  have hND : ∀ x, x < l.length → bt_ D x = true → bt_ N x = false := fun x hx h => by
    cases hb : bt_ N x with
    | false => rfl
    | true =>
      have h1 := valP_low (freeL [] D v) 0 x (bt_ N) (by rw [freeL_len]; omega) (by rw [Nat.zero_add]; exact hb) (by rw [frD x (by omega), if_pos h]) hup
      have h2 := n1.most (fun _ => false) (fun i _ hp => by cases hp)
      rw [valP_none] at h2
      rw [freeL_len] at h1
      omega
  have hX := xval _ hND
  have qDa : ∀ Q, Closed l Q → Q a = false → ∀ x, x < l.length → bt_ D x = true → Q x = false := fun Q hQ hQa x hx h => by
    cases hb : Q x with
    | false => rfl
    | true => rw [d4 Q hQ x hx h hb] at hQa; cases hQa
  refine ⟨valP (bt_ (outL C B)) 0 v, valP (bt_ N) 0 v, ?_, ⟨fun Q hQ hQa => ?_, ⟨_, hclO, hCO a ha c3, rfl⟩, fun Q hQ hQa => ?_, ⟨_, n1.closed, hND a ha d3, rfl⟩⟩⟩
  · refine Ev.congr (fun k => by rw [impl_bestWith.f]) (Ev.bind c1 ?_)
    refine Ev.bind b2 ?_
    refine Ev.bind (listOf_ok (outL C B) (by omega)) ?_
    refine Ev.bind d1 ?_
    refine Ev.bind n2 ?_
    refine Ev.bind (listOf_ok N (by omega)) ?_
    refine Ev.bind (valueSum_ok hV (by omega)) ?_
    refine Ev.bind (valueSum_ok hV (by omega)) ?_
    exact Ev.now _
  · have h1 := wval Q (fun x hx h => c5 Q hQ hQa x hx h)
    have h2 := b1.most Q hQ
    omega
  · have h1 := xval Q (qDa Q hQ hQa)
    have h2 := n1.most Q hQ
    omega
end
theorem set_vals {v : List Int} (hV : Vals v) (a : Nat) (x : Int) (h0 : -1000000 ≤ x) (h1 : x ≤ 1000000) : Vals (v.set a x) := by
  refine ⟨by simpa using hV.n1, by simpa using hV.n2, fun j hj => ?_⟩
  rw [List.length_set] at hj
  have hm : rd (v.set a x) (j : Int) ∈ v.set a x := rd_mem _ _ (by omega) (by simp; omega)
  rcases List.mem_or_eq_of_mem_set hm with h | h
  · exact hV.mem _ h
  · rw [h]; exact ⟨h0, h1⟩
theorem val_set {v : List Int} (a : Nat) (ha : a < v.length) (x : Int) (Q : Nat → Bool) : valP Q 0 (v.set a x) = valP Q 0 v + if Q a = true then x - rd v (a : Int) else 0 := by
  have e : valP Q 0 (v.set a x) = valP Q 0 v + valP Q 0 ((List.replicate v.length (0 : Int)).set a (x - rd v (a : Int))) := by
    refine valP_rel _ _ _ 0 Q Q Q (by simp) (by simp) (fun m hm => ?_)
    rw [List.length_set] at hm
    rw [Nat.zero_add]
    by_cases h : m = a
    · subst h
      have r1 : rd (v.set m x) (m : Int) = x := by have := rd_set_eq v (m : Int) x ⟨by omega, by omega⟩; rwa [Int.toNat_natCast] at this
      have r2 : rd ((List.replicate v.length (0 : Int)).set m (x - rd v (m : Int))) (m : Int) = x - rd v (m : Int) := by
        have := rd_set_eq (List.replicate v.length (0 : Int)) (m : Int) (x - rd v (m : Int)) ⟨by omega, by simp; omega⟩; rwa [Int.toNat_natCast] at this
      rw [r1, r2]
      split <;> omega
    · have r1 : rd (v.set a x) (m : Int) = rd v (m : Int) := by have := rd_set_ne v (a : Int) (m : Int) x (by omega) (by omega) (by omega); rwa [Int.toNat_natCast] at this
      have r2 : rd ((List.replicate v.length (0 : Int)).set a (x - rd v (a : Int))) (m : Int) = 0 := by
        have := rd_set_ne (List.replicate v.length (0 : Int)) (a : Int) (m : Int) (x - rd v (a : Int)) (by omega) (by omega) (by omega)
        rw [Int.toNat_natCast] at this
        rw [this, rd_rep _ _ _ (by omega) (by omega)]
      rw [r1, r2]
      split <;> omega
  have e2 : valP Q 0 ((List.replicate v.length (0 : Int)).set a (x - rd v (a : Int))) = if Q a = true then x - rd v (a : Int) else 0 := by
    have gen : ∀ (n i a : Nat) (y : Int), a < n → valP Q i ((List.replicate n (0 : Int)).set a y) = if Q (i + a) = true then y else 0 := by
      intro n
      induction n with
      | zero => intro i a y h; omega
      | succ n ih =>
        intro i a y h
        rw [List.replicate_succ]
        cases a with
        | zero =>
          have z : ∀ (n i : Nat), valP Q i (List.replicate n (0 : Int)) = 0 := by
            intro n
            induction n with
            | zero => intro i; rfl
            | succ n ih => intro i; rw [List.replicate_succ]; simp only [valP, ih]; simp
          simp only [List.set_cons_zero, valP, z, Nat.add_zero, Int.add_zero]
        | succ a =>
          simp only [List.set_cons_succ, valP]
          rw [ih (i + 1) a y (by omega), show i + 1 + a = i + (a + 1) by omega]
          simp
    rw [gen _ 0 a _ ha, Nat.zero_add]
  rw [e, e2]
section
variable {l : List (List Int)} {v : List Int} (hA : Arcs l) (hv : v.length = l.length) (hV : Vals v) (a : Nat) (ha : a < l.length) {w x : Int} (hB : Both l v a w x)
include hA hv hV ha hB
theorem edIn_ok (y : Int) (h0 : -1000000 ≤ y) (h1 : y ≤ 1000000) : Ev (fun k => spec_edIn.f k l v (a : Int) y) (decide (x - w + rd v (a : Int) + 1 ≤ y)) := by
  have hn2 := hA.n2
  have hV' := set_vals hV a y h0 h1
  have hl' : (v.set a y).length = l.length := by rw [List.length_set]; exact hv
  obtain ⟨B, b1, b2⟩ := best_ok hA hl' hV'
  have hBl := b1.len
  have hav : a < v.length := by omega
  have key : bt_ B a = decide (x - w + rd v (a : Int) + 1 ≤ y) := by
    cases hb : bt_ B a with
    | true =>
      refine (decide_eq_true ?_).symm
      have q1 := hB.w1 _ b1.closed hb
      have q2 := val_set a hav y (bt_ B)
      rw [if_pos hb] at q2
      obtain ⟨Q, q3, q4, q5⟩ := hB.x2
      have q6 := val_set a hav y Q
      rw [q4, if_neg (by decide)] at q6
      have q7 := b1.most Q q3
      by_cases hlt : x - w + rd v (a : Int) + 1 ≤ y
      · exact hlt
      · have q8 := b1.least Q q3 (by omega) a ha hb
        rw [q4] at q8; cases q8
    | false =>
      refine (decide_eq_false ?_).symm
      intro hle
      have q1 := hB.x1 _ b1.closed hb
      have q2 := val_set a hav y (bt_ B)
      rw [hb, if_neg (by decide)] at q2
      obtain ⟨Q, q3, q4, q5⟩ := hB.w2
      have q6 := val_set a hav y Q
      rw [if_pos q4] at q6
      have q7 := b1.most Q q3
      omega
  have e1 := paFind_ok hA hl' (vals_b hV') b1
  have e2 := has_ok (onL 0 B) (a : Int) (by have := onL_len B 0; omega)
  have e3 : decide ((a : Int) ∈ onL 0 B) = bt_ B a := by
    have := onL_mem B 0 a
    rw [Int.zero_add] at this
    cases hb : bt_ B a
    · exact decide_eq_false (fun h_ => by rw [this, hb] at h_; cases h_)
    · exact decide_eq_true (this.2 hb)
  rw [e3, key] at e2
  refine Ev.congr (f := fun k => (spec_paFind.f k l (v.set a y)).bind fun t162 => (spec_l1Has.f k t162 (a : Int)).bind fun t165 => some t165) (fun k => ?_) (Ev.bind e1 (Ev.bind (f := fun _ t => some t) e2 (Ev.now _)))
  rw [spec_edIn.f, spec_l1Own.f, Option.bind_some, if_pos (by simp; omega), Option.bind_some, List.nil_append, if_pos (by omega), if_pos (by omega), Int.toNat_natCast]
def clampT (lo hi t : Int) : Int := if t ≤ lo then lo else if hi ≤ t then hi else t
theorem edLeast_ok : Ev (fun k => spec_edLeast.f k l v (a : Int)) (clampT (-1000000) 1000001 (x - w + rd v (a : Int) + 1)) := by
  have loop : ∀ (d : Nat) (lo hi : Int), (hi - lo).toNat ≤ d → lo ≤ hi → -1000000 ≤ lo → hi ≤ 1000001 → Ev (fun k => spec_edLeast.l0 k l v (a : Int) lo hi) (clampT lo hi (x - w + rd v (a : Int) + 1)) := by
    intro d
    induction d with
    | zero =>
      intro lo hi h1 h2 h3 h4
      refine Ev.step (f := fun _ => some (clampT lo hi (x - w + rd v (a : Int) + 1))) (fun k => ?_) (Ev.now _)
      rw [spec_edLeast.l0, if_neg (by omega)]
      congr 1
      unfold clampT
      split
      · rfl
      · rw [if_pos (by omega)]; omega
    | succ d ih =>
      intro lo hi h1 h2 h3 h4
      by_cases hlt : lo < hi
      · have hm : Int.tdiv (hi - lo) 2 = (hi - lo) / 2 := Int.tdiv_eq_ediv_of_nonneg (by omega)
        have hmid : wrap64 (lo + wrap64 (Int.tdiv (wrap64 (hi - lo)) 2)) = lo + (hi - lo) / 2 := by
          rw [wrap_id (x := hi - lo) (by omega) (by omega), hm, wrap_id (x := (hi - lo) / 2) (by omega) (by omega), wrap_id (by omega) (by omega)]
        have hin := edIn_ok hA hv hV a ha hB (lo + (hi - lo) / 2) (by omega) (by omega)
        have eq : ∀ k, spec_edLeast.l0 (k + 1) l v (a : Int) lo hi = (spec_edIn.f k l v (a : Int) (lo + (hi - lo) / 2)).bind fun t => if t = true then spec_edLeast.l0 k l v (a : Int) lo (lo + (hi - lo) / 2) else spec_edLeast.l0 k l v (a : Int) (lo + (hi - lo) / 2 + 1) hi := fun k => by
          rw [spec_edLeast.l0, if_pos hlt, hmid, wrap_id (x := lo + (hi - lo) / 2 + 1) (by omega) (by omega)]
        by_cases ht : x - w + rd v (a : Int) + 1 ≤ lo + (hi - lo) / 2
        · rw [decide_eq_true ht] at hin
          have h_ := ih lo (lo + (hi - lo) / 2) (by omega) (by omega) (by omega) (by omega)
          have e : clampT lo (lo + (hi - lo) / 2) (x - w + rd v (a : Int) + 1) = clampT lo hi (x - w + rd v (a : Int) + 1) := by
            unfold clampT; split
            · rfl
            · split <;> split <;> omega
          rw [e] at h_
          refine Ev.step eq (Ev.bind hin ?_)
          simp only [if_true]
          exact h_
        · rw [decide_eq_false ht] at hin
          have h_ := ih (lo + (hi - lo) / 2 + 1) hi (by omega) (by omega) (by omega) (by omega)
          have e : clampT (lo + (hi - lo) / 2 + 1) hi (x - w + rd v (a : Int) + 1) = clampT lo hi (x - w + rd v (a : Int) + 1) := by
            unfold clampT; split <;> split <;> (try split) <;> omega
          rw [e] at h_
          refine Ev.step eq (Ev.bind hin ?_)
          exact Ev.congr (fun k => if_neg (by decide)) h_
      · refine Ev.step (f := fun _ => some (clampT lo hi (x - w + rd v (a : Int) + 1))) (fun k => ?_) (Ev.now _)
        rw [spec_edLeast.l0, if_neg hlt]
        congr 1
        unfold clampT
        split
        · rfl
        · rw [if_pos (by omega)]; omega
  have := loop 2000001 (-1000000) 1000001 (by omega) (by omega) (by omega) (by omega)
  exact Ev.congr (fun k => by rw [spec_edLeast.f]) this
end
theorem Both.bound {l : List (List Int)} {v : List Int} {a : Nat} {w x : Int} (h : Both l v a w x) (hV : Vals v) : -200000000 ≤ w ∧ w ≤ 200000000 ∧ -200000000 ≤ x ∧ x ≤ 200000000 := by
  have hn2 := hV.n2
  obtain ⟨Q, _, _, q1⟩ := h.w2
  obtain ⟨R, _, _, r1⟩ := h.x2
  have h1 := valP_bound Q v 0 hV.mem
  have h2 := valP_bound R v 0 hV.mem
  omega
section
variable (l : List (List Int)) (v : List Int) (hl : l.length ≤ 4611686018427387904) (hr : ∀ r, r ∈ l → r.length ≤ 4611686018427387904) (hv : v.length ≤ 4611686018427387904)
include hl hr hv
open Classical in
theorem edBlock_ok (a : Int) : Ev (fun k => spec_edBlock.f k l v a) (decide (Valid l v ∧ 0 ≤ a ∧ a < (l.length : Int))) := by
  have e2 := edBoth_ok l v hl hr hv
  by_cases h : Valid l v
  · rw [decide_eq_true h] at e2
    have hlen := h.len
    refine Ev.congr (fun k => by rw [spec_edBlock.f]) (Ev.bind e2 ?_)
    simp only [if_true]
    refine Ev.congr (f := fun _ => some (decide (Valid l v ∧ 0 ≤ a ∧ a < (l.length : Int)))) (fun k => ?_) (Ev.now _)
    rw [wrap_id (x := (v.length : Int) - 1) (by omega) (by omega), l1In_ok, Option.bind_some]
    congr 1
    exact decide_eq_decide.2 ⟨fun h_ => ⟨h, by omega, by omega⟩, fun h_ => ⟨by omega, by omega⟩⟩
  · rw [decide_eq_false h] at e2
    rw [decide_eq_false (fun h_ => h h_.1)]
    refine Ev.congr (fun k => by rw [spec_edBlock.f]) (Ev.bind e2 ?_)
    exact Ev.congr (fun k => if_neg (by decide)) (Ev.now _)
open Classical in
theorem LeastRaise_ok (a : Int) : ∃ g, Ev (fun k => impl_LeastRaise.f k l v a) g ∧ Ev (fun k => spec_LeastRaise.f k l v a) g := by
  have e1 := areValued_ok l v hl hr hv
  have e2 := edBlock_ok l v hl hr hv a
  have no : Ev (fun k => impl_LeastRaise.j0 k l v a true) (0, false) := Ev.step (f := fun _ => some (0, false)) (fun k => by rw [impl_LeastRaise.j0, if_pos rfl]) (Ev.now _)
  by_cases h : Valid l v
  · rw [decide_eq_true h] at e1
    by_cases ha : 0 ≤ a ∧ a < (l.length : Int)
    · rw [decide_eq_true ⟨h, ha⟩] at e2
      obtain ⟨n, rfl⟩ := Int.eq_ofNat_of_zero_le ha.1
      have han : n < l.length := by omega
      have hlen := h.len
      obtain ⟨w, x, b1, b2⟩ := bestWith_ok h.arcs h.len h.vals n han
      have hb := b2.bound h.vals
      have hva := h.vals.r n (by omega)
      have e3 := edLeast_ok h.arcs h.len h.vals n han b2
      have w1 : wrap64 (wrap64 (x - w) + 1) = x - w + 1 := by rw [wrap_id (x := x - w) (by omega) (by omega), wrap_id (by omega) (by omega)]
      have w2 : wrap64 (rd v (n : Int) + (x - w + 1)) = rd v (n : Int) + (x - w + 1) := wrap_id (by omega) (by omega)
      refine ⟨if w > x then (0, true) else if rd v (n : Int) + (x - w + 1) > 1000000 then (0, false) else (x - w + 1, true), ?_, ?_⟩
      · refine Ev.congr (fun k => by rw [impl_LeastRaise.f]) (Ev.bind e1 ?_)
        simp only [if_true]
        refine Ev.congr (f := fun k => impl_LeastRaise.j0 k l v (n : Int) false) (fun k => ?_) ?_
        · rw [if_neg (by omega), decide_eq_false (by omega)]
        refine Ev.step (fun k => by rw [impl_LeastRaise.j0, if_neg (by decide)]) ?_
        refine Ev.bind b1 ?_
        refine Ev.congr (f := fun _ => some (if w > x then (0, true) else if rd v (n : Int) + (x - w + 1) > 1000000 then (0, false) else (x - w + 1, true))) (fun k => ?_) (Ev.now _)
        simp only [w1, w2]
        by_cases h1 : w > x
        · rw [if_pos h1, if_pos h1]
        · rw [if_neg h1, if_neg h1, if_pos (by omega), if_pos (by omega)]
          by_cases h2 : rd v (n : Int) + (x - w + 1) > 1000000
          · rw [if_pos h2, if_pos h2]
          · rw [if_neg h2, if_neg h2]
      · refine Ev.congr (fun k => by rw [spec_LeastRaise.f]) (Ev.bind e2 ?_)
        simp only [if_true]
        refine Ev.bind e3 ?_
        refine Ev.congr (f := fun _ => some (if w > x then (0, true) else if rd v (n : Int) + (x - w + 1) > 1000000 then (0, false) else (x - w + 1, true))) (fun k => ?_) (Ev.now _)
        have hc : -1000000 ≤ clampT (-1000000) 1000001 (x - w + rd v (n : Int) + 1) ∧ clampT (-1000000) 1000001 (x - w + rd v (n : Int) + 1) ≤ 1000001 := by unfold clampT; split <;> (try split) <;> omega
        by_cases h1 : w > x
        · rw [if_pos h1]
          have hc2 : clampT (-1000000) 1000001 (x - w + rd v (n : Int) + 1) ≤ rd v (n : Int) := by unfold clampT; split <;> (try split) <;> omega
          rw [if_neg (by omega), if_pos (by omega), if_pos (by omega), wrap_id (by omega) (by omega), spec_l1Most.f]
          by_cases h3 : 0 > clampT (-1000000) 1000001 (x - w + rd v (n : Int) + 1) - rd v (n : Int)
          · rw [if_pos h3]; rfl
          · rw [if_neg h3, Option.bind_some, show clampT (-1000000) 1000001 (x - w + rd v (n : Int) + 1) - rd v (n : Int) = 0 by omega]
        · rw [if_neg h1]
          by_cases h2 : rd v (n : Int) + (x - w + 1) > 1000000
          · have hc2 : clampT (-1000000) 1000001 (x - w + rd v (n : Int) + 1) > 1000000 := by unfold clampT; split <;> (try split) <;> omega
            rw [if_pos hc2, if_pos h2]
          · have hc2 : clampT (-1000000) 1000001 (x - w + rd v (n : Int) + 1) = x - w + rd v (n : Int) + 1 := by unfold clampT; split <;> (try split) <;> omega
            rw [hc2, if_neg (by omega), if_neg h2, if_pos (by omega), if_pos (by omega), wrap_id (by omega) (by omega), spec_l1Most.f, if_neg (by omega), Option.bind_some]
            congr 2
            omega
    · rw [decide_eq_false (fun h_ => ha h_.2)] at e2
      refine ⟨(0, false), ?_, ?_⟩
      · refine Ev.congr (fun k => by rw [impl_LeastRaise.f]) (Ev.bind e1 ?_)
        simp only [if_true]
        refine Ev.congr (f := fun k => impl_LeastRaise.j0 k l v a true) (fun k => ?_) no
        by_cases h1 : a < 0
        · rw [if_pos h1]
        · rw [if_neg h1, decide_eq_true (by omega)]
      · refine Ev.congr (fun k => by rw [spec_LeastRaise.f]) (Ev.bind e2 ?_)
        exact Ev.congr (fun k => if_neg (by decide)) (Ev.now _)
  · rw [decide_eq_false h] at e1
    rw [decide_eq_false (fun h_ => h h_.1)] at e2
    refine ⟨(0, false), ?_, ?_⟩
    · refine Ev.congr (fun k => by rw [impl_LeastRaise.f]) (Ev.bind e1 ?_)
      exact Ev.congr (fun k => if_neg (by decide)) no
    · refine Ev.congr (fun k => by rw [spec_LeastRaise.f]) (Ev.bind e2 ?_)
      exact Ev.congr (fun k => if_neg (by decide)) (Ev.now _)
end
end Go.Proofs.Ytclpjlaielphfaa.Pure
end
