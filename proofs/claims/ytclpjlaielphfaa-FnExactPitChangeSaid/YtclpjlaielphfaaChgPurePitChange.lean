/- Used by the claim's last text. -/
import Derived.Test.YtclpjlaielphfaaChgPurePitAfter
import Derived.Test.YtclpjlaielphfaaChgPFx18
section
namespace Go.Proofs.Ytclpjlaielphfaa.Pure
open Go Go.RowKit Go.Proofs.YtclpjlaielphfaaW.PrintWords Go.Proofs.YtclpjlaielphfaaW.PrintLast Go.Proofs.YtclpjlaielphfaaW.PrintMore Go.Proofs.Ytclpjlaielphfaa.PF Go.Proofs.Ytclpjlaielphfaa.Flow
set_option linter.unusedVariables false
set_option linter.unusedSimpArgs false
theorem l1Has_ok (ys : List Int) (x : Int) (hl : ys.length ≤ 4611686018427387904) : Ev (fun k => spec_l1Has.f k ys x) (decide (x ∈ ys)) := by
  have loop : ∀ (d j : Nat), j + d = ys.length → Ev (fun k => spec_l1Has.l0 k x ys (ys.length : Int) (j : Int)) (decide (x ∈ ys.drop j)) := by
    intro d
    induction d with
    | zero =>
      intro j h1
      refine Ev.step (f := fun _ => some (decide (x ∈ ys.drop j))) (fun k => ?_) (Ev.now _)
      rw [spec_l1Has.l0, if_neg (by omega), List.drop_eq_nil_of_le (by omega)]
      rfl
    | succ d ih =>
      intro j h1
      have hj : j < ys.length := by omega
      have hj1 : (j : Int) + 1 = ((j + 1 : Nat) : Int) := by omega
      rw [List.drop_eq_getElem_cons hj]
      by_cases he : ys[j] = x
      · rw [decide_eq_true (by rw [he]; exact List.mem_cons_self ..)]
        refine Ev.step (f := fun _ => some true) (fun k => ?_) (Ev.now _)
        rw [spec_l1Has.l0, if_pos (by omega), if_pos (by omega), if_pos (by omega), rd_nat ys j hj, if_pos he]
      · rw [show decide (x ∈ ys[j] :: ys.drop (j + 1)) = decide (x ∈ ys.drop (j + 1)) from decide_eq_decide.2 ⟨fun h => (List.mem_cons.1 h).elim (fun h_ => absurd h_.symm he) id, List.mem_cons_of_mem _⟩]
        refine Ev.step (fun k => ?_) (ih (j + 1) (by omega))
        rw [spec_l1Has.l0, if_pos (by omega), if_pos (by omega), if_pos (by omega), rd_nat ys j hj, if_neg he, wrap_id (x := (j : Int) + 1) (by omega) (by omega), hj1]
  have := loop ys.length 0 (by omega)
  exact Ev.congr (fun k => by rw [spec_l1Has.f]; rfl) this
theorem phLess_ok (xs ys : List Int) (hx : xs.length ≤ 1000) (hy : ys.length ≤ 1000) : Ev (fun k => spec_phLess.f k xs ys) (xs.filter fun x => !decide (x ∈ ys)) := by
  have loop : ∀ (d j : Nat) (acc : List Int), j + d = xs.length → acc.length ≤ j → Ev (fun k => spec_phLess.l0 k ys acc xs (xs.length : Int) (j : Int)) (acc ++ (xs.drop j).filter fun x => !decide (x ∈ ys)) := by
    intro d
    induction d with
    | zero =>
      intro j acc h1 ha
      refine Ev.step (f := fun _ => some (acc ++ (xs.drop j).filter fun x => !decide (x ∈ ys))) (fun k => ?_) (Ev.now _)
      rw [spec_phLess.l0, if_neg (by omega), List.drop_eq_nil_of_le (by omega), List.filter_nil, List.append_nil]
    | succ d ih =>
      intro j acc h1 ha
      have hj : j < xs.length := by omega
      have hj1 : (j : Int) + 1 = ((j + 1 : Nat) : Int) := by omega
      have hh := l1Has_ok ys xs[j] (by omega)
      rw [List.drop_eq_getElem_cons hj, List.filter_cons]
      have eq : ∀ k, spec_phLess.l0 (k + 1) ys acc xs (xs.length : Int) (j : Int) = (spec_l1Has.f k ys xs[j]).bind fun t => if t = true then spec_phLess.l0 k ys acc xs (xs.length : Int) ((j + 1 : Nat) : Int) else spec_phLess.l0 k ys (acc ++ [xs[j]]) xs (xs.length : Int) ((j + 1 : Nat) : Int) := fun k => by
        rw [spec_phLess.l0, if_pos (by omega), if_pos (by omega), if_pos (by omega), rd_nat xs j hj, wrap_id (x := (j : Int) + 1) (by omega) (by omega), hj1]
        congr 1
        funext t
        rw [if_pos (show acc.length < 17592186044416 by omega)]
      by_cases hm : xs[j] ∈ ys
      · rw [decide_eq_true hm] at hh ⊢
        refine Ev.step eq (Ev.bind hh ?_)
        simp only [if_true, Bool.not_true]
        exact ih (j + 1) acc (by omega) (by omega)
      · rw [decide_eq_false hm] at hh ⊢
        refine Ev.step eq (Ev.bind hh ?_)
        have := ih (j + 1) (acc ++ [xs[j]]) (by omega) (by simp; omega)
        rw [List.append_assoc] at this
        simp only [Bool.not_false, if_true]
        exact Ev.congr (fun k => if_neg (by decide)) this
  have := loop xs.length 0 [] (by omega) (by simp)
  exact Ev.congr (fun k => by rw [spec_phLess.f]; rfl) this
def dif (C B : List Bool) : List Bool := List.zipWith (fun c b => c && !b) C B
theorem onL_dif : ∀ (C B : List Bool) (j : Int) (p : Int → Bool), C.length = B.length → (∀ m : Nat, m < B.length → p (j + (m : Int)) = !bt_ B m) → (onL j C).filter p = onL j (dif C B)
  | [], [], _, _, _, _ => rfl
  | c :: C, b :: B, j, p, hl, hp => by
    have ih := onL_dif C B (j + 1) p (by simpa using hl) (fun m hm => by
      have := hp (m + 1) (by simpa using hm)
      rw [show j + 1 + (m : Int) = j + ((m + 1 : Nat) : Int) by omega, this]
      simp [bt_])
    have h0 : p j = !b := by have := hp 0 (by simp); simpa [bt_] using this
    have e : dif (c :: C) (b :: B) = (c && !b) :: dif C B := rfl
    rw [e, onL, onL]
    cases c
    · simpa using ih
    · rw [if_pos rfl, List.filter_cons, h0, ih]
      cases b <;> simp
  | [], _ :: _, _, _, h, _ => by simp at h
  | _ :: _, [], _, _, h, _ => by simp at h
theorem less_dif (C B : List Bool) (h : C.length = B.length) : ((onL 0 C).filter fun x => !decide (x ∈ onL 0 B)) = onL 0 (dif C B) := by
  refine onL_dif C B 0 _ h (fun m hm => ?_)
  have := onL_mem B 0 m
  cases hb : bt_ B m
  · rw [decide_eq_false (fun h_ => by rw [this, hb] at h_; cases h_)]
  · rw [decide_eq_true (this.2 hb)]
theorem change_ok (B C : List Bool) (hl : C.length = B.length) (hn : B.length ≤ 1000) : Ev (fun k => iPC.l0 k B [] [] C (C.length : Int) 0) (onL 0 (dif C B), onL 0 (dif B C), true) := by
  have loop : ∀ (d j : Nat) (a b : List Int), j + d = C.length → a.length ≤ j → b.length ≤ j → Ev (fun k => iPC.l0 k B a b C (C.length : Int) (j : Int)) (a ++ onL (j : Int) (dif (C.drop j) (B.drop j)), b ++ onL (j : Int) (dif (B.drop j) (C.drop j)), true) := by
    intro d
    induction d with
    | zero =>
      intro j a b h1 ha hb
      refine Ev.step (f := fun _ => some (a, b, true)) (fun k => ?_) ?_
      · rw [iPC.l0, if_neg (by omega)]
      · rw [List.drop_eq_nil_of_le (by omega), List.drop_eq_nil_of_le (by omega)]
        simp only [dif, List.zipWith_nil_left, onL, List.append_nil]
        exact Ev.now _
    | succ d ih =>
      intro j a b h1 ha hb
      have hjC : j < C.length := by omega
      have hjB : j < B.length := by omega
      have hj1 : (j : Int) + 1 = ((j + 1 : Nat) : Int) := by omega
      have rC : rdOf false C (j : Int) = C[j] := by rw [rdOf, Int.toNat_natCast, List.getD_eq_getElem?_getD, List.getElem?_eq_getElem hjC, Option.getD_some]
      have rB : rdOf false B (j : Int) = B[j] := by rw [rdOf, Int.toNat_natCast, List.getD_eq_getElem?_getD, List.getElem?_eq_getElem hjB, Option.getD_some]
      have dC : C.drop j = C[j] :: C.drop (j + 1) := List.drop_eq_getElem_cons hjC
      have dB : B.drop j = B[j] :: B.drop (j + 1) := List.drop_eq_getElem_cons hjB
      have e1 : dif (C.drop j) (B.drop j) = (C[j] && !B[j]) :: dif (C.drop (j + 1)) (B.drop (j + 1)) := by rw [dC, dB]; rfl
      have e2 : dif (B.drop j) (C.drop j) = (B[j] && !C[j]) :: dif (B.drop (j + 1)) (C.drop (j + 1)) := by rw [dC, dB]; rfl
      rw [e1, e2, onL, onL]
      have hw : wrap64 ((j : Int) + 1) = ((j + 1 : Nat) : Int) := by rw [wrap_id (by omega) (by omega), hj1]
      cases hc : C[j] <;> cases hbb : B[j]
      · have h_ := ih (j + 1) a b (by omega) (by omega) (by omega)
        simp only [Bool.false_and, Bool.false_eq_true, if_false, ← hj1] at h_ ⊢
        refine Ev.step (fun k => ?_) (Ev.step (g := fun k => iPC.j2 k B a b (j : Int) false C (C.length : Int) (j : Int) false) (fun k => ?_) h_)
        · rw [iPC.l0, if_pos (by omega), if_pos (by omega), if_pos (by omega), rC, hc, if_neg (by decide)]
        · rw [iPC.j2, if_neg (by decide), if_neg (by decide), if_pos (by omega), if_pos (by omega), rB, hbb, if_neg (by decide), hw, hj1]
      · have h_ := ih (j + 1) a (b ++ [(j : Int)]) (by omega) (by omega) (by simp; omega)
        rw [List.append_assoc] at h_
        simp only [Bool.false_and, Bool.true_and, Bool.not_false, Bool.false_eq_true, if_false, if_true, ← hj1, List.singleton_append] at h_ ⊢
        refine Ev.step (fun k => ?_) (Ev.step (g := fun k => iPC.j2 k B a b (j : Int) false C (C.length : Int) (j : Int) false) (fun k => ?_) h_)
        · rw [iPC.l0, if_pos (by omega), if_pos (by omega), if_pos (by omega), rC, hc, if_neg (by decide)]
        · rw [iPC.j2, if_neg (by decide), if_neg (by decide), if_pos (by omega), if_pos (by omega), rB, hbb, if_pos rfl, if_pos (by omega), hw, hj1]
      · have h_ := ih (j + 1) (a ++ [(j : Int)]) b (by omega) (by simp; omega) (by omega)
        rw [List.append_assoc] at h_
        simp only [Bool.false_and, Bool.true_and, Bool.not_false, Bool.false_eq_true, if_false, if_true, ← hj1, List.singleton_append] at h_ ⊢
        refine Ev.step (fun k => ?_) (Ev.step (g := fun k => iPC.j2 k B a b (j : Int) true C (C.length : Int) (j : Int) true) (fun k => ?_) h_)
        · rw [iPC.l0, if_pos (by omega), if_pos (by omega), if_pos (by omega), rC, hc, if_pos rfl, if_pos (by omega), rB, hbb]
          rfl
        · rw [iPC.j2, if_pos rfl, if_pos (by omega), Option.bind_some, if_pos rfl, hw, hj1]
      · have h_ := ih (j + 1) a b (by omega) (by omega) (by omega)
        simp only [Bool.true_and, Bool.not_true, Bool.false_eq_true, if_false, ← hj1] at h_ ⊢
        refine Ev.step (fun k => ?_) (Ev.step (g := fun k => iPC.j2 k B a b (j : Int) true C (C.length : Int) (j : Int) false) (fun k => ?_) h_)
        · rw [iPC.l0, if_pos (by omega), if_pos (by omega), if_pos (by omega), rC, hc, if_pos rfl, if_pos (by omega), rB, hbb]
          rfl
        · rw [iPC.j2, if_neg (by decide), if_pos rfl, hw, hj1]
  have := loop C.length 0 [] [] (by omega) (by simp) (by simp)
  simpa using this
section
variable (l : List (List Int)) (v : List Int) (hl : l.length ≤ 4611686018427387904) (hr : ∀ r, r ∈ l → r.length ≤ 4611686018427387904) (hv : v.length ≤ 4611686018427387904)
include hl hr hv
open Classical in
theorem PitChange_ok (e : List S130) (he : e.length ≤ 4611686018427387904) : ∃ g, Ev (fun k => iPC.f k l v e) g ∧ Ev (fun k => spec_PitChange.f k l v e) g ∧ g.1.length ≤ 1000 ∧ g.2.1.length ≤ 1000 := by
  have e1 := areValued_ok l v hl hr hv
  have e2 := edAsked_ok l v hl hr hv e he
  have e3 := areEdits_ok v e he
  have no : Ev (fun k => iPC.j0 k l v e true) (([] : List Int), ([] : List Int), false) := Ev.step (f := fun _ => some ([], [], false)) (fun k => by rw [iPC.j0, if_pos rfl]) (Ev.now _)
  by_cases h : Valid l v
  · rw [decide_eq_true h] at e1
    by_cases hE : Edits v.length e
    · rw [decide_eq_true hE] at e3
      rw [decide_eq_true ⟨h, hE⟩] at e2
      have hV' := appE_vals h.vals hE
      have hl' : (appE v e).length = l.length := by rw [appE_len]; exact h.len
      obtain ⟨C, c1, c2⟩ := best_ok h.arcs hl' hV'
      obtain ⟨B, b1, b2⟩ := best_ok h.arcs h.len h.vals
      have hn2 := h.arcs.n2
      have hCl := c1.len
      have hBl := b1.len
      have z1 : (dif C B).length ≤ 1000 := by simp [dif]; omega
      have z2 : (dif B C).length ≤ 1000 := by simp [dif]; omega
      have q1 := onL_len C 0
      have q2 := onL_len B 0
      refine ⟨(onL 0 (dif C B), onL 0 (dif B C), true), ?_, ?_, by have := onL_len (dif C B) 0; simp only []; omega, by have := onL_len (dif B C) 0; simp only []; omega⟩
      · refine Ev.congr (fun k => by rw [iPC.f]) (Ev.bind e1 ?_)
        simp only [if_true]
        refine Ev.bind e3 ?_
        simp only [Bool.not_true]
        refine Ev.step (fun k => by rw [iPC.j0, if_neg (by decide)]) ?_
        refine Ev.bind b2 ?_
        refine Ev.bind (editValues_ok h.vals hE) ?_
        refine Ev.bind c2 ?_
        exact change_ok B C (by omega) (by omega)
      · refine Ev.congr (fun k => by rw [spec_PitChange.f]) (Ev.bind e2 ?_)
        simp only [if_true]
        refine Ev.bind (paFind_ok h.arcs h.len (vals_b h.vals) b1) ?_
        refine Ev.bind (edAfter_ok h.vals hE) ?_
        refine Ev.bind (paFind_ok h.arcs hl' (vals_b hV') c1) ?_
        refine Ev.bind (phLess_ok (onL 0 C) (onL 0 B) (by omega) (by omega)) ?_
        refine Ev.bind (phLess_ok (onL 0 B) (onL 0 C) (by omega) (by omega)) ?_
        simp only [less_dif C B (by omega), less_dif B C (by omega)]
        exact Ev.now _
    · rw [decide_eq_false hE] at e3
      rw [decide_eq_false (fun h_ => hE h_.2)] at e2
      refine ⟨([], [], false), ?_, ?_, by simp, by simp⟩
      · refine Ev.congr (fun k => by rw [iPC.f]) (Ev.bind e1 ?_)
        simp only [if_true]
        refine Ev.bind e3 ?_
        simp only [Bool.not_false]
        exact no
      · refine Ev.congr (fun k => by rw [spec_PitChange.f]) (Ev.bind e2 ?_)
        exact Ev.congr (fun k => if_neg (by decide)) (Ev.now _)
  · rw [decide_eq_false h] at e1
    rw [decide_eq_false (fun h_ => h h_.1)] at e2
    refine ⟨([], [], false), ?_, ?_, by simp, by simp⟩
    · refine Ev.congr (fun k => by rw [iPC.f]) (Ev.bind e1 ?_)
      exact Ev.congr (fun k => if_neg (by decide)) no
    · refine Ev.congr (fun k => by rw [spec_PitChange.f]) (Ev.bind e2 ?_)
      exact Ev.congr (fun k => if_neg (by decide)) (Ev.now _)
end
theorem FnExactPitChange (l : List (List Int)) (v : List Int) (e : List S132) (hl : l.length ≤ maxLen) (hr : ∀ r, r ∈ l → r.length ≤ maxLen) (hv : v.length ≤ maxLen) (he : e.length ≤ maxLen) : ∃ k, lPC.f k l v e = some true := by
  refine Ev.rounds (g := fun k => lPC.f k l v e) ?_
  by_cases hv1 : (v.length : Int) > 1048576
  · exact Ev.congr (f := fun _ => some true) (fun k => by rw [lPC.f, if_pos hv1]) (Ev.now _)
  · refine Ev.congr (fun k => by rw [lPC.f, if_neg hv1]) ?_
    obtain ⟨s, s1, s2, s3⟩ := szIntSS_ok l 1048576 (by omega) (by omega) hl hr
    refine Ev.bind s1 ?_
    by_cases hs : s < 0
    · simp only [if_pos hs]; exact Ev.now _
    simp only [if_neg hs]
    obtain ⟨t, t1, t2⟩ := szEditS_ok e s (by omega) (by omega) he
    simp only [t1, Option.bind_some]
    by_cases ht : t < 0
    · simp only [if_pos ht]; exact Ev.now _
    simp only [if_neg ht]
    have hs3 := s3 (by omega)
    have ht2 := t2 (by omega)
    have hrow : ∀ r, r ∈ l → r.length ≤ 1048576 := fun r h => by have := row_le h; omega
    have cA := toIntSS_ok l (by omega) (fun r h => by have := hrow r h; omega)
    have cV := toIntS_ok v (by omega)
    have cE := toEditS_ok e (by omega)
    have hel : (e.map conv).length = e.length := by simp
    obtain ⟨⟨g, h, b⟩, g1, g2, g3, g4⟩ := PitChange_ok l v (by omega) (fun r h => by have := hrow r h; omega) (by omega) (e.map conv) (by omega)
    simp only [] at g3 g4
    have qg := eqIntS_refl g (by omega)
    have qh := eqIntS_refl h (by omega)
    refine Ev.bind cA ?_
    refine Ev.bind cV ?_
    refine Ev.bind cE ?_
    refine Ev.bind g2 ?_
    refine Ev.bind cA ?_
    refine Ev.bind cV ?_
    refine Ev.bind cE ?_
    refine Ev.bind g1 ?_
    refine Ev.bind qg ?_
    simp only [if_true]
    refine Ev.bind qh ?_
    simp only [if_true, bne_self_eq_false]
    refine Ev.step (fun k => by rw [lPC.j0, if_neg (by decide)]) ?_
    refine Ev.bind cA ?_
    refine Ev.bind (eqIntSS_refl l (by omega) (fun r h => by have := hrow r h; omega)) ?_
    simp only [if_true]
    refine Ev.bind cV ?_
    refine Ev.bind (eqIntS_refl v (by omega)) ?_
    simp only [if_true]
    refine Ev.bind cE ?_
    refine Ev.bind (eqEditS_refl (e.map conv) (by omega)) ?_
    simp only [if_true]
    obtain ⟨v', m1, _, _⟩ := markIntS_ok v (1 + (tot l : Int)) (by omega) (by omega)
    obtain ⟨e', m2⟩ := markEditS_ok (e.map conv) (1 + (tot l : Int) + (v.length : Int)) (by omega) (by omega)
    refine Ev.bind (markIntSS_ok l 1 (by omega) (by omega) (by omega)) ?_
    refine Ev.bind m1 ?_
    refine Ev.bind m2 ?_
    simp only []
    refine Ev.congr (fun k => if_neg (by omega)) ?_
    refine Ev.bind qg ?_
    simp only [if_true]
    refine Ev.bind qh ?_
    simp only [if_true, bne_self_eq_false]
    refine Ev.step (fun k => by rw [lPC.j1, if_neg (by decide)]) ?_
    obtain ⟨g', n1, n2, n3⟩ := markIntS_ok g 1 (by omega) (by omega)
    obtain ⟨h', o1, o2, o3⟩ := markIntS_ok h (1 + (g.length : Int)) (by omega) (by omega)
    have hh := heldIntS_ok g' 1 (by omega) (by omega) (fun i h0 h1 => n3 i h0 (by omega))
    have hh2 := heldIntS_ok h' (1 + (g.length : Int)) (by omega) (by omega) (fun i h0 h1 => o3 i h0 (by omega))
    rw [n2] at hh
    rw [o2] at hh2
    refine Ev.bind n1 ?_
    refine Ev.bind o1 ?_
    refine Ev.bind hh ?_
    simp only []
    refine Ev.congr (fun k => if_neg (by omega)) ?_
    refine Ev.bind hh2 ?_
    refine Ev.congr (fun k => if_neg (by omega)) ?_
    simp only [if_true]
    refine Ev.bind cA ?_
    refine Ev.bind cV ?_
    refine Ev.bind cE ?_
    refine Ev.bind g1 ?_
    refine Ev.bind qg ?_
    simp only [if_true]
    refine Ev.bind qh ?_
    simp only [if_true, bne_self_eq_false]
    refine Ev.step (fun k => by rw [lPC.j2, if_neg (by decide)]) ?_
    refine Ev.bind hh ?_
    refine Ev.congr (fun k => if_neg (by omega)) ?_
    refine Ev.bind hh2 ?_
    refine Ev.congr (fun k => if_neg (by omega)) ?_
    simp only [if_true]
    exact Ev.now _
end Go.Proofs.Ytclpjlaielphfaa.Pure
end
