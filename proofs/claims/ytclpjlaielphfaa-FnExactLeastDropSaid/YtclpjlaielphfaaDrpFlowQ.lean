/- Used by the claim's last text. -/
import Derived.Test.YtclpjlaielphfaaDrpFlowP
section
namespace Go.Proofs.Ytclpjlaielphfaa.Flow
open Go Go.RowKit Go.Proofs.YtclpjlaielphfaaW.PrintWords Go.Proofs.YtclpjlaielphfaaW.PrintLast Go.Proofs.YtclpjlaielphfaaW.PrintMore
set_option linter.unusedVariables false
set_option linter.unusedSimpArgs false
theorem rd_set_eq (l : List Int) (i : Int) (v : Int) (h : inb i l) : rd (l.set i.toNat v) i = v := by
  have hi : i.toNat < l.length := by have := h.2; have := h.1; omega
  rw [rd, List.getD_eq_getElem?_getD, List.getElem?_set_self hi, Option.getD_some]
theorem rd_set_ne (l : List Int) (i j : Int) (v : Int) (hi : 0 ≤ i) (hj : 0 ≤ j) (h : i ≠ j) : rd (l.set i.toNat v) j = rd l j := by
  rw [rd, List.getD_eq_getElem?_getD, List.getElem?_set_ne (by omega), ← List.getD_eq_getElem?_getD, ← rd]
theorem rdB_set_eq (l : List Bool) (i : Int) (v : Bool) (h : inb i l) : rdB (l.set i.toNat v) i = v := by
  have hi : i.toNat < l.length := by have := h.2; have := h.1; omega
  rw [rdB, List.getD_eq_getElem?_getD, List.getElem?_set_self hi, Option.getD_some]
theorem rdB_set_ne (l : List Bool) (i j : Int) (v : Bool) (hi : 0 ≤ i) (hj : 0 ≤ j) (h : i ≠ j) : rdB (l.set i.toNat v) j = rdB l j := by
  rw [rdB, List.getD_eq_getElem?_getD, List.getElem?_set_ne (by omega), ← List.getD_eq_getElem?_getD, ← rdB]
theorem rd_rep (n : Nat) (v i : Int) (h0 : 0 ≤ i) (h : i < (n : Int)) : rd (List.replicate n v) i = v := by
  rw [rd, List.getD_eq_getElem?_getD, List.getElem?_replicate, if_pos (by omega), Option.getD_some]
theorem rdB_rep (n : Nat) (i : Int) : rdB (List.replicate n false) i = false := by
  rw [rdB, List.getD_eq_getElem?_getD, List.getElem?_replicate]
  split <;> rfl
theorem rd_nat (l : List Int) (i : Nat) (h : i < l.length) : rd l (i : Int) = l[i] := by
  rw [rd, Int.toNat_natCast, List.getD_eq_getElem?_getD, List.getElem?_eq_getElem h, Option.getD_some]
theorem wrap_id {x : Int} (h0 : -9223372036854775808 ≤ x) (h1 : x < 9223372036854775808) : wrap64 x = x := by
  unfold wrap64; omega
theorem count_set (I : List Bool) : ∀ i : Nat, i < I.length → I.getD i false = false → (I.set i true).count true = I.count true + 1 := by
  induction I with
  | nil => intro i h; simp at h
  | cons b I ih =>
    intro i h hb
    cases i with
    | zero => simp at hb; subst hb; simp
    | succ i =>
      simp only [List.set_cons_succ, List.count_cons]
      have := ih i (by simpa using h) (by simpa using hb)
      omega
theorem count_le (I : List Bool) : I.count true ≤ I.length := List.count_le_length
structure Net (E : List (List Int)) (tt : List Int) : Prop where
  n2 : 2 ≤ E.length
  nM : E.length ≤ 1000
  ev : ∃ m : Nat, tt.length = 2 * m
  tM : tt.length ≤ 2000000
  row : ∀ a, inb a E → ∀ e, e ∈ rowAt E a → inb e tt ∧ rd tt (back e) = a
  tgt : ∀ e, inb e tt → inb (rd tt e) E
  mem : ∀ e, inb e tt → e ∈ rowAt E (rd tt (back e))
  rl : ∀ a, (rowAt E a).length ≤ 2000000
def sp (I : List Bool) (V : List Int) : List Int := List.zipWith (fun b v => if b = true then v else -1) I V
theorem sp_len {I : List Bool} {V : List Int} (h : I.length = V.length) : (sp I V).length = V.length := by simp [sp, h]
theorem sp_rd {I : List Bool} {V : List Int} (hl : I.length = V.length) (b : Int) (hb : inb b V) : rd (sp I V) b = if rdB I b = true then rd V b else -1 := by
  have h1 : b.toNat < V.length := by have := hb.1; have := hb.2; omega
  have h2 : b.toNat < I.length := by omega
  rw [rd, rdB, rd, List.getD_eq_getElem?_getD, List.getD_eq_getElem?_getD, List.getD_eq_getElem?_getD, List.getElem?_eq_getElem h1, List.getElem?_eq_getElem h2, List.getElem?_eq_getElem (by simp [sp]; omega)]
  simp [sp]
theorem sp_set {I : List Bool} {V : List Int} (i : Nat) (v : Int) : sp (I.set i true) (V.set i v) = (sp I V).set i v := by
  apply List.ext_getElem?
  intro j
  simp only [sp, List.getElem?_zipWith, List.getElem?_set, List.length_zipWith]
  by_cases hij : i = j
  · subst hij
    simp only [if_true]
    by_cases h1 : i < I.length
    · by_cases h2 : i < V.length
      · simp [h1, h2, Nat.lt_min.2 ⟨h1, h2⟩]
      · simp [h1, h2]; omega
    · simp [h1]; omega
  · simp [hij]
structure BI (E : List (List Int)) (tt left : List Int) (I : List Bool) (V Q : List Int) (P : Nat) (a : Int) (es : List Int) : Prop where
  lI : I.length = E.length
  lV : V.length = E.length
  i0 : rdB I 0 = true
  v0 : rd V 0 = 0
  cnt : Q.length + P = I.count true
  q : ∀ b, b ∈ Q → inb b E ∧ rdB I b = true
  nd : Q.Nodup
  v : ∀ b, inb b E → 0 ≤ rd V b ∧ rd V b ≤ (I.count true : Int) ∧ (rdB I b = false → rd V b = 0)
  cl : ∀ b, inb b E → rdB I b = true → ¬ b ∈ Q → ∀ e, e ∈ rowAt E b → (b = a ∧ e ∈ es) ∨ (0 < rd left e → rdB I (rd tt e) = true)
  pred : ∀ b, inb b E → rdB I b = true → b ≠ 0 → ∃ p e, inb p E ∧ rdB I p = true ∧ e ∈ rowAt E p ∧ 0 < rd left e ∧ rd tt e = b ∧ rd V b = rd V p + 1
theorem fsIn_ok {E : List (List Int)} {tt left : List Int} (hN : Net E tt) (hl : left.length = tt.length) (a : Int) (ha : inb a E) (P : List Int) : ∀ (es : List Int), (∀ e, e ∈ es → e ∈ rowAt E a) → ∀ (I : List Bool) (V Q : List Int), rdB I a = true → ¬ a ∈ Q → BI E tt left I V Q P.length a es →
    ∃ I' V' Q', fsIn tt left a es I V Q = some (I', V', Q') ∧ BI E tt left I' V' Q' P.length a [] ∧ lvIn tt left a es (sp I V) (P ++ Q) = some (sp I' V', P ++ Q') ∧ Q'.length + I.count true = Q.length + I'.count true := by
  intro es
  induction es with
  | nil =>
    intro _ I V Q hIa haQ h
    exact ⟨I, V, Q, rfl, h, rfl, rfl⟩
  | cons e es ih =>
    intro hes I V Q hIa haQ h
    obtain ⟨het, hea⟩ := hN.row a ha e (hes e (List.mem_cons_self ..))
    have hel : inb e left := ⟨het.1, by rw [hl]; exact het.2⟩
    have hto := hN.tgt e het
    have htI : inb (rd tt e) I := ⟨hto.1, by rw [h.lI]; exact hto.2⟩
    have htV : inb (rd tt e) V := ⟨hto.1, by rw [h.lV]; exact hto.2⟩
    have htS : inb (rd tt e) (sp I V) := ⟨hto.1, by rw [sp_len (by rw [h.lI, h.lV]), h.lV]; exact hto.2⟩
    have haV : inb a V := ⟨ha.1, by rw [h.lV]; exact ha.2⟩
    have haS : inb a (sp I V) := ⟨ha.1, by rw [sp_len (by rw [h.lI, h.lV]), h.lV]; exact ha.2⟩
    have hlIV : I.length = V.length := by rw [h.lI, h.lV]
    have hes' : ∀ e, e ∈ es → e ∈ rowAt E a := fun x hx => hes x (List.mem_cons_of_mem _ hx)
    rw [fsIn, lvIn, if_pos hel, if_pos hel]
    by_cases h0 : 0 < rd left e
    · rw [if_pos h0, if_pos h0, if_pos het, if_pos het, if_pos htI, if_pos htS, sp_rd hlIV _ htV]
      by_cases hm : rdB I (rd tt e) = true
      · rw [if_pos hm, if_pos hm, if_neg (by have := (h.v _ hto).1; omega)]
        refine ih hes' I V Q hIa haQ { h with cl := fun b hb hIb hbQ x hx => ?_ }
        rcases h.cl b hb hIb hbQ x hx with ⟨h1, h2⟩ | h1
        · rcases List.mem_cons.1 h2 with h3 | h3
          · subst h3; exact .inr fun _ => hm
          · exact .inl ⟨h1, h3⟩
        · exact .inr h1
      · have hm' : rdB I (rd tt e) = false := by simpa using hm
        have hcle : I.count true ≤ E.length := by rw [← h.lI]; exact count_le I
        have hcs : (I.set (rd tt e).toNat true).count true = I.count true + 1 := count_set I _ (by have := htI.1; have := htI.2; omega) (by unfold rdB at hm'; exact hm')
        have hcs' : (I.set (rd tt e).toNat true).count true ≤ E.length := by
          have := count_le (I.set (rd tt e).toNat true)
          rw [List.length_set, h.lI] at this
          exact this
        have hnM := hN.nM
        have hcnt := h.cnt
        have hva := h.v a ha
        have hw : wrap64 (rd V a + 1) = rd V a + 1 := wrap_id (by omega) (by omega)
        have hne : rd tt e ≠ a := fun e_ => by rw [e_, hIa] at hm'; cases hm'
        have hne0 : rd tt e ≠ 0 := fun e_ => by rw [e_, h.i0] at hm'; cases hm'
        rw [if_neg hm, if_pos htV, if_pos haV, if_pos (by omega), if_neg hm, if_pos (by omega), if_pos haS, sp_rd hlIV _ haV, if_pos hIa, if_pos (by simp; omega), hw, ← sp_set, List.append_assoc]
        have key : ∀ b, b ≠ rd tt e → inb b E → rdB (I.set (rd tt e).toNat true) b = rdB I b ∧ rd (V.set (rd tt e).toNat (rd V a + 1)) b = rd V b := fun b hb hbE => ⟨rdB_set_ne _ _ _ _ hto.1 hbE.1 (Ne.symm hb), rd_set_ne _ _ _ _ hto.1 hbE.1 (Ne.symm hb)⟩
        have selfI : rdB (I.set (rd tt e).toNat true) (rd tt e) = true := rdB_set_eq _ _ _ htI
        have selfV : rd (V.set (rd tt e).toNat (rd V a + 1)) (rd tt e) = rd V a + 1 := rd_set_eq _ _ _ htV
        have up : ∀ b, inb b E → rdB I b = true → rdB (I.set (rd tt e).toNat true) b = true := fun b hb hIb => by
          by_cases hbe : b = rd tt e
          · rw [hbe]; exact selfI
          · rw [(key b hbe hb).1]; exact hIb
        have hE0 : inb (0 : Int) E := ⟨Int.le_refl _, by have := hN.n2; omega⟩
        obtain ⟨I', V', Q', h1, h2, h3, h4⟩ := ih hes' (I.set (rd tt e).toNat true) (V.set (rd tt e).toNat (rd V a + 1)) (Q ++ [rd tt e]) (up a ha hIa) (by
            intro hmem
            rcases List.mem_append.1 hmem with h1 | h1
            · exact haQ h1
            · exact hne (List.mem_singleton.1 h1).symm)
          { lI := by rw [List.length_set]; exact h.lI
            lV := by rw [List.length_set]; exact h.lV
            i0 := up 0 hE0 h.i0
            v0 := by rw [(key 0 (Ne.symm hne0) hE0).2]; exact h.v0
            cnt := by rw [hcs, List.length_append, List.length_singleton]; omega
            q := fun b hb => by
              rcases List.mem_append.1 hb with h1 | h1
              · exact ⟨(h.q b h1).1, up b (h.q b h1).1 (h.q b h1).2⟩
              · rw [List.mem_singleton.1 h1]; exact ⟨hto, selfI⟩
            nd := by
              rw [List.nodup_append]
              refine ⟨h.nd, by simp, fun x hx y hy => ?_⟩
              rw [List.mem_singleton.1 hy]
              intro e_
              rw [← e_, (h.q x hx).2] at hm'
              cases hm'
            v := fun b hb => by
              rw [hcs]
              by_cases hbe : b = rd tt e
              · rw [hbe, selfI, selfV]
                exact ⟨by omega, by have := hva.2.1; omega, fun h_ => by cases h_⟩
              · rw [(key b hbe hb).1, (key b hbe hb).2]
                exact ⟨(h.v b hb).1, by have := (h.v b hb).2.1; omega, (h.v b hb).2.2⟩
            cl := fun b hb hIb hbQ x hx => by
              by_cases hbe : b = rd tt e
              · exact absurd (List.mem_append_right _ (List.mem_singleton.2 hbe)) hbQ
              · rw [(key b hbe hb).1] at hIb
                rcases h.cl b hb hIb (fun h_ => hbQ (List.mem_append_left _ h_)) x hx with ⟨h1, h2⟩ | h1
                · rcases List.mem_cons.1 h2 with h3 | h3
                  · subst h3; exact .inr fun _ => selfI
                  · exact .inl ⟨h1, h3⟩
                · exact .inr fun hp => up _ (hN.tgt x (hN.row b hb x hx).1) (h1 hp)
            pred := fun b hb hIb hb0 => by
              by_cases hbe : b = rd tt e
              · exact ⟨a, e, ha, up a ha hIa, hes e (List.mem_cons_self ..), h0, hbe.symm, by rw [hbe, selfV, (key a (Ne.symm hne) ha).2]⟩
              · rw [(key b hbe hb).1] at hIb
                obtain ⟨p, x, h1, h2, h3, h4, h5, h6⟩ := h.pred b hb hIb hb0
                refine ⟨p, x, h1, up p h1 h2, h3, h4, h5, ?_⟩
                rw [(key b hbe hb).2, h6]
                by_cases hpe : p = rd tt e
                · rw [hpe] at h2; exact absurd h2 hm
                · rw [(key p hpe h1).2] }
        exact ⟨I', V', Q', h1, h2, h3, by rw [hcs] at h4; rw [List.length_append, List.length_singleton] at h4; omega⟩
    · rw [if_neg h0, if_neg h0]
      refine ih hes' I V Q hIa haQ { h with cl := fun b hb hIb hbQ x hx => ?_ }
      rcases h.cl b hb hIb hbQ x hx with ⟨h1, h2⟩ | h1
      · rcases List.mem_cons.1 h2 with h3 | h3
        · subst h3; exact .inr fun hp => absurd hp h0
        · exact .inl ⟨h1, h3⟩
      · exact .inr h1
structure Lev (E : List (List Int)) (tt left : List Int) (I : List Bool) (V : List Int) : Prop where
  lI : I.length = E.length
  lV : V.length = E.length
  i0 : rdB I 0 = true
  v0 : rd V 0 = 0
  v : ∀ b, inb b E → 0 ≤ rd V b ∧ rd V b ≤ 1000 ∧ (rdB I b = false → rd V b = 0)
  cl : ∀ b, inb b E → rdB I b = true → ∀ e, e ∈ rowAt E b → 0 < rd left e → rdB I (rd tt e) = true
  pred : ∀ b, inb b E → rdB I b = true → b ≠ 0 → ∃ p e, inb p E ∧ rdB I p = true ∧ e ∈ rowAt E p ∧ 0 < rd left e ∧ rd tt e = b ∧ rd V b = rd V p + 1
theorem fsOut_ok {E : List (List Int)} {tt left : List Int} (hN : Net E tt) (hl : left.length = tt.length) : ∀ (k : Nat) (P : List Int) (I : List Bool) (V Q : List Int), (E.length - I.count true) + Q.length < k → BI E tt left I V Q P.length (-1) [] →
    ∃ I' V', fsOut E tt left k I V Q = some (I', V') ∧ lvOut E tt left k (sp I V) (P ++ Q) (P.length : Int) = some (sp I' V') ∧ Lev E tt left I' V' := by
  intro k
  induction k with
  | zero => intro P I V Q h; omega
  | succ k ih =>
    intro P I V Q hk h
    have hcle : I.count true ≤ E.length := by rw [← h.lI]; exact count_le I
    have hnM := hN.nM
    have hcnt := h.cnt
    cases Q with
    | nil =>
      refine ⟨I, V, by rw [fsOut], by rw [lvOut, if_neg (by simp)], ⟨h.lI, h.lV, h.i0, h.v0, fun b hb => ⟨(h.v b hb).1, by have := (h.v b hb).2.1; omega, (h.v b hb).2.2⟩, fun b hb hI e he => ?_, h.pred⟩⟩
      rcases h.cl b hb hI (by simp) e he with ⟨_, h2⟩ | h2
      · cases h2
      · exact h2
    | cons a Q =>
      obtain ⟨haE, haI⟩ := h.q a (List.mem_cons_self ..)
      have hnd := List.nodup_cons.1 h.nd
      have hlP : ((P ++ [a]).length : Int) = (P.length : Int) + 1 := by simp
      have hrd : rd (P ++ a :: Q) (P.length : Int) = a := by
        rw [rd_nat _ _ (by simp)]
        simp
      have hb : BI E tt left I V Q (P ++ [a]).length a (rowAt E a) := { h with
        cnt := by simp at hcnt ⊢; omega
        q := fun b hb => h.q b (List.mem_cons_of_mem _ hb)
        nd := hnd.2
        cl := fun b hb hI hbQ e he => by
          by_cases hba : b = a
          · exact .inl ⟨hba, by rw [← hba]; exact he⟩
          · rcases h.cl b hb hI (fun hm => by rcases List.mem_cons.1 hm with h1 | h1 <;> contradiction) e he with ⟨_, h2⟩ | h2
            · cases h2
            · exact .inr h2 }
      obtain ⟨I', V', Q', h1, h2, h3, h4⟩ := fsIn_ok hN hl a haE (P ++ [a]) (rowAt E a) (fun _ h_ => h_) I V Q haI hnd.1 hb
      have hcle' : I'.count true ≤ E.length := by rw [← h2.lI]; exact count_le I'
      have h2' : BI E tt left I' V' Q' (P ++ [a]).length (-1) [] := { h2 with
        cl := fun b hb hI hbQ e he => by
          rcases h2.cl b hb hI hbQ e he with ⟨_, h_⟩ | h_
          · cases h_
          · exact .inr h_ }
      obtain ⟨I'', V'', h5, h6, h7⟩ := ih (P ++ [a]) I' V' Q' (by simp at hk; omega) h2'
      refine ⟨I'', V'', ?_, ?_, h7⟩
      · rw [fsOut, if_pos haE, h1]
        exact h5
      · rw [lvOut, if_pos (by simp; omega), hrd, if_pos ⟨by omega, haE⟩]
        rw [List.append_assoc] at h3
        simp only [List.singleton_append] at h3
        rw [h3, Option.bind_some, wrap_id (by omega) (by simp at hcnt; omega), ← hlP]
        exact h6
theorem fs_ok {E : List (List Int)} {tt left : List Int} (hN : Net E tt) (hl : left.length = tt.length) (k : Nat) (hk : 1000 < k) :
    ∃ I V, fs k E tt left = some (I, V) ∧ lv k E tt left = some (sp I V) ∧ Lev E tt left I V := by
  have hn2 := hN.n2
  have hnM := hN.nM
  have hE0 : inb (0 : Int) E := ⟨Int.le_refl _, by omega⟩
  have hI0 : rdB ((List.replicate E.length false).set (0 : Int).toNat true) 0 = true := rdB_set_eq _ _ _ ⟨Int.le_refl _, by simp; omega⟩
  have hIb : ∀ b : Int, 0 ≤ b → b ≠ 0 → rdB ((List.replicate E.length false).set (0 : Int).toNat true) b = false := fun b hb0 hb => by
    rw [rdB_set_ne _ _ _ _ (Int.le_refl _) hb0 (Ne.symm hb), rdB_rep]
  have hc : ((List.replicate E.length false).set (0 : Int).toNat true).count true = 1 := by
    rw [show (0 : Int).toNat = 0 from rfl, count_set _ 0 (by simp; omega) (by rw [List.getD_eq_getElem?_getD, List.getElem?_replicate, if_pos (by omega)]; rfl), List.count_replicate]
    simp
  have hV : ∀ b, inb b E → rd (List.replicate E.length (0 : Int)) b = 0 := fun b hb => rd_rep _ _ _ hb.1 hb.2
  obtain ⟨I, V, h1, h2, h3⟩ := fsOut_ok hN hl k [] ((List.replicate E.length false).set (0 : Int).toNat true) (List.replicate E.length 0) [0] (by rw [hc]; simp; omega) {
    lI := by simp
    lV := by simp
    i0 := hI0
    v0 := hV 0 hE0
    cnt := by rw [hc]; rfl
    q := fun b hb => by rw [List.mem_singleton.1 hb]; exact ⟨hE0, hI0⟩
    nd := by simp
    v := fun b hb => by rw [hV b hb, hc]; exact ⟨Int.le_refl _, by omega, fun _ => rfl⟩
    cl := fun b hb hI hbQ e he => by
      have hb0 : b ≠ 0 := fun e_ => hbQ (by rw [e_]; exact List.mem_singleton.2 rfl)
      rw [hIb b hb.1 hb0] at hI
      cases hI
    pred := fun b hb hI hb0 => by
      rw [hIb b hb.1 hb0] at hI
      cases hI }
  refine ⟨I, V, ?_, ?_, h3⟩
  · unfold fs
    rw [if_pos ⟨by omega, by omega⟩]
    exact h1
  · unfold lv
    rw [if_pos ⟨by omega, by omega⟩]
    have hs : sp ((List.replicate E.length false).set (0 : Int).toNat true) (List.replicate E.length 0) = (List.replicate E.length (-1 : Int)).set 0 0 := by
      have h_ : (List.replicate E.length (0 : Int)) = (List.replicate E.length (0 : Int)).set 0 0 := by
        apply List.ext_getElem?
        intro j
        rw [List.getElem?_set]
        split
        · rename_i e_; subst e_; simp [List.getElem?_replicate]
        · rfl
      rw [h_]
      show sp ((List.replicate E.length false).set 0 true) _ = _
      rw [sp_set]
      congr 1
      simp [sp, List.zipWith_replicate]
    rw [← hs]
    exact h2
end Go.Proofs.Ytclpjlaielphfaa.Flow
end
