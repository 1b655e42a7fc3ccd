/- Used by the claim's last text. -/
import Derived.Test.YtclpjlaielphfaaRseFlowQ
import Derived.Laws.BitsLemmas
section
namespace Go.Proofs.Ytclpjlaielphfaa.Flow
open Go Go.RowKit Go.Proofs.YtclpjlaielphfaaW.PrintWords Go.Proofs.YtclpjlaielphfaaW.PrintLast Go.Proofs.YtclpjlaielphfaaW.PrintMore
set_option linter.unusedVariables false
set_option linter.unusedSimpArgs false
theorem xor_one (n : Nat) : n ^^^ 1 = if n % 2 = 0 then n + 1 else n - 1 := by
  have h1 : (n ^^^ 1) / 2 = n / 2 := by rw [Nat.xor_div_two]; simp
  have h2 : (n ^^^ 1) % 2 = 1 ↔ ¬ (n % 2 = 1 ↔ 1 % 2 = 1) := Nat.xor_mod_two_eq_one
  split <;> omega
theorem back_of (e : Int) (h0 : 0 ≤ e) (h1 : e < 4611686018427387904) : back e = if e % 2 = 0 then e + 1 else e - 1 := by
  obtain ⟨n, rfl⟩ := Int.eq_ofNat_of_zero_le h0
  have hx : n ^^^ 1 < 2 ^ 62 := Nat.xor_lt_two_pow (by omega) (by omega)
  have h2 : (BitVec.ofInt 64 (n : Int)).toNat = n := by
    rw [BitVec.ofInt_natCast, BitVec.toNat_ofNat]; exact Nat.mod_eq_of_lt (by omega)
  have h3 : back (n : Int) = ((n ^^^ 1 : Nat) : Int) := by
    show IntKind.i64.wrap (((BitVec.ofInt 64 (n : Int) ^^^ BitVec.ofInt 64 1 : BitVec 64).toNat : Nat) : Int) = _
    rw [BitVec.toNat_xor, h2, show (BitVec.ofInt 64 1).toNat = 1 from rfl, IntKind.wrap_i64]
    omega
  rw [h3, xor_one]
  split <;> split <;> omega
section
variable {tt left : List Int}
theorem back_inb {l : List Int} (hv : ∃ m : Nat, l.length = 2 * m) (hm : l.length ≤ 2000000) {e : Int} (h : inb e l) : inb (back e) l ∧ back (back e) = e ∧ back e ≠ e := by
  obtain ⟨m, hv⟩ := hv
  have h1 := h.1
  have h2 := h.2
  have hb := back_of e h1 (by omega)
  have hb2 : 0 ≤ back e ∧ back e < (l.length : Int) := by rw [hb]; split <;> omega
  refine ⟨hb2, ?_, ?_⟩
  · rw [back_of (back e) hb2.1 (by omega), hb]
    split <;> split <;> omega
  · rw [hb]; split <;> omega
def wsum (f : Nat → Int) : List Int → Int
  | [] => 0
  | x :: l => f 0 * x + wsum (fun i => f (i + 1)) l
theorem wsum_set : ∀ (l : List Int) (f : Nat → Int) (i : Nat) (v : Int), i < l.length → wsum f (l.set i v) = wsum f l + f i * (v - l.getD i 0)
  | [], _, _, _, h => by simp at h
  | x :: l, f, 0, v, _ => by
    simp only [List.set_cons_zero, wsum, List.getD_cons_zero, Int.mul_sub]
    omega
  | x :: l, f, i + 1, v, h => by
    simp only [List.set_cons_succ, wsum, List.getD_cons_succ]
    rw [wsum_set l _ i v (by simpa using h)]
    omega
def cf (tt : List Int) (S : Int → Bool) (i : Nat) : Int := if S (rd tt (back (i : Int))) = true ∧ S (rd tt (i : Int)) = false then 1 else 0
def cutw (tt : List Int) (S : Int → Bool) (left : List Int) : Int := wsum (cf tt S) left
theorem cutw_set (tt : List Int) (S : Int → Bool) (left : List Int) (i v : Int) (h : inb i left) : cutw tt S (left.set i.toNat v) = cutw tt S left + (if S (rd tt (back i)) = true ∧ S (rd tt i) = false then v - rd left i else 0) := by
  unfold cutw
  have h1 := h.1
  have h2 := h.2
  rw [wsum_set left _ i.toNat v (by omega), cf, Int.toNat_of_nonneg h1, ← rd]
  split <;> simp
structure Lft (tt left : List Int) : Prop where
  len : left.length = tt.length
  nn : ∀ e, inb e left → 0 ≤ rd left e
  pair : ∀ e, inb e left → rd left e + rd left (back e) ≤ 1125899906842624
theorem Lft.le (h : Lft tt left) (hv : ∃ m : Nat, tt.length = 2 * m) (hm : tt.length ≤ 2000000) {e : Int} (he : inb e left) : rd left e ≤ 1125899906842624 := by
  have h1 := h.pair e he
  have h2 := h.nn (back e) (back_inb (by rw [h.len]; exact hv) (by rw [h.len]; exact hm) he).1
  omega
theorem pushT_ok (hL : Lft tt left) (hv : ∃ m : Nat, tt.length = 2 * m) (hm : tt.length ≤ 2000000) {e s : Int} (he : inb e left) (hs : 0 < s) (hse : s ≤ rd left e) (next : List Int) :
    ∃ left', pushT e s left next = some (s, left', next) ∧ Lft tt left' ∧ (∀ i, inb i left → i ≠ e → i ≠ back e → rd left' i = rd left i) ∧
    ∀ S : Int → Bool, cutw tt S left' = cutw tt S left - (if S (rd tt (back e)) = true then s else 0) + (if S (rd tt e) = true then s else 0) := by
  obtain ⟨hb, hbb, hne⟩ := back_inb (by rw [hL.len]; exact hv) (by rw [hL.len]; exact hm) he
  have hle := hL.le hv hm he
  have hp := hL.pair e he
  have hnb := hL.nn _ hb
  have hw1 : wrap64 (rd left e - s) = rd left e - s := wrap_id (by omega) (by omega)
  have hrb : rd (left.set e.toNat (rd left e - s)) (back e) = rd left (back e) := rd_set_ne _ _ _ _ he.1 hb.1 (Ne.symm hne)
  have hw2 : wrap64 (rd left (back e) + s) = rd left (back e) + s := wrap_id (by omega) (by omega)
  have hb2 : inb (back e) (left.set e.toNat (rd left e - s)) := ⟨hb.1, by rw [List.length_set]; exact hb.2⟩
  have r1 : rd ((left.set e.toNat (rd left e - s)).set (back e).toNat (rd left (back e) + s)) (back e) = rd left (back e) + s := rd_set_eq _ _ _ hb2
  have r2 : rd ((left.set e.toNat (rd left e - s)).set (back e).toNat (rd left (back e) + s)) e = rd left e - s := by
    rw [rd_set_ne _ _ _ _ hb.1 he.1 hne]
    exact rd_set_eq _ _ _ he
  have r3 : ∀ i, inb i left → i ≠ e → i ≠ back e → rd ((left.set e.toNat (rd left e - s)).set (back e).toNat (rd left (back e) + s)) i = rd left i := fun i hi h1 h2 => by
    rw [rd_set_ne _ _ _ _ hb.1 hi.1 (Ne.symm h2), rd_set_ne _ _ _ _ he.1 hi.1 (Ne.symm h1)]
  refine ⟨(left.set e.toNat (rd left e - s)).set (back e).toNat (rd left (back e) + s), ?_, ⟨by simp [hL.len], fun i hi => ?_, fun i hi => ?_⟩, r3, fun S => ?_⟩
  · unfold pushT
    rw [if_pos he, if_pos hb, hw1, hrb, hw2]
  · have hi' : inb i left := ⟨hi.1, by have := hi.2; simp at this; exact this⟩
    by_cases h1 : i = e
    · rw [h1, r2]; omega
    · by_cases h2 : i = back e
      · rw [h2, r1]; omega
      · rw [r3 i hi' h1 h2]; exact hL.nn i hi'
  · have hi' : inb i left := ⟨hi.1, by have := hi.2; simp at this; exact this⟩
    by_cases h1 : i = e
    · rw [h1, r2, r1]; omega
    · by_cases h2 : i = back e
      · rw [h2, r1, hbb, r2]; omega
      · obtain ⟨hib, hibb, _⟩ := back_inb (by rw [hL.len]; exact hv) (by rw [hL.len]; exact hm) hi'
        rw [r3 i hi' h1 h2, r3 (back i) hib (fun e_ => h2 (by rw [← e_, hibb])) (fun e_ => h1 (by rw [← hibb, e_, hbb]))]
        exact hL.pair i hi'
  · rw [cutw_set _ _ _ _ _ hb2, cutw_set _ _ _ _ _ he, hbb, hrb]
    cases S (rd tt (back e)) <;> cases S (rd tt e) <;> simp <;> omega
end
structure LV (E : List (List Int)) (I : List Bool) (V : List Int) : Prop where
  lI : I.length = E.length
  lV : V.length = E.length
  v : ∀ b, inb b E → 0 ≤ rd V b ∧ rd V b ≤ 1000 ∧ (rdB I b = false → rd V b = 0)
theorem Lev.lv {E : List (List Int)} {tt left : List Int} {I : List Bool} {V : List Int} (h : Lev E tt left I V) : LV E I V := ⟨h.lI, h.lV, h.v⟩
structure Nx (E : List (List Int)) (next : List Int) : Prop where
  len : next.length = E.length
  b : ∀ a, inb a E → 0 ≤ rd next a ∧ rd next a ≤ ((rowAt E a).length : Int)
def Ex (E : List (List Int)) (next : List Int) (b : Int) : Prop := b ≠ (E.length : Int) - 1 ∧ ((rowAt E b).length : Int) ≤ rd next b
def DeadE (E : List (List Int)) (tt left V next : List Int) (b e : Int) : Prop := rd left e = 0 ∨ rd V (rd tt e) ≠ rd V b + 1 ∨ Ex E next (rd tt e)
def Dead (E : List (List Int)) (tt left V next : List Int) : Prop := ∀ b, inb b E → ∀ j : Int, 0 ≤ j → j < rd next b → j < ((rowAt E b).length : Int) → DeadE E tt left V next b (rd (rowAt E b) j)
structure PP (E : List (List Int)) (tt V : List Int) (a most : Int) (left next : List Int) (r : Int) (left' next' : List Int) : Prop where
  r0 : 0 ≤ r
  rm : r ≤ most
  L : Lft tt left'
  N : Nx E next'
  u : ∀ i, inb i tt → rd V (rd tt (back i)) < rd V a → rd left' i = rd left i
  z : r = 0 → left' = left ∧ (∀ b, inb b E → rd next b ≤ rd next' b) ∧ (∀ b, inb b E → rd V b < rd V a → rd next' b = rd next b) ∧ (Dead E tt left V next → Dead E tt left V next' ∧ Ex E next' a)
  c : ∀ S : Int → Bool, S ((E.length : Int) - 1) = false → cutw tt S left' = cutw tt S left - (if S a = true then r else 0)
section
variable {E : List (List Int)} {tt V left next nx left' next' : List Int} {a most r : Int}
theorem PP.adv (h : PP E tt V a most left nx r left' next') (h1 : ∀ b, inb b E → rd next b ≤ rd nx b) (h2 : ∀ b, inb b E → rd V b < rd V a → rd nx b = rd next b) (h3 : Dead E tt left V next → Dead E tt left V nx) : PP E tt V a most left next r left' next' :=
  { h with z := fun hr => ⟨(h.z hr).1, fun b hb => Int.le_trans (h1 b hb) ((h.z hr).2.1 b hb), fun b hb hv => ((h.z hr).2.2.1 b hb hv).trans (h2 b hb hv), fun hd => (h.z hr).2.2.2 (h3 hd)⟩ }
theorem step_at (hN : Nx E next) (ha : inb a E) (hlt : rd next a < 4611686018427387904) : rd (step next a) a = rd next a + 1 := by
  have h0 := (hN.b a ha).1
  unfold step
  rw [rd_set_eq _ _ _ ⟨ha.1, by rw [hN.len]; exact ha.2⟩, wrap_id (by omega) (by omega)]
theorem step_ne {b : Int} (ha : inb a E) (hb : inb b E) (h : b ≠ a) : rd (step next a) b = rd next b := by
  unfold step
  exact rd_set_ne _ _ _ _ ha.1 hb.1 (Ne.symm h)
theorem step_Nx (hN : Nx E next) (ha : inb a E) (hlt : rd next a < ((rowAt E a).length : Int)) (hM : (rowAt E a).length ≤ 2000000) : Nx E (step next a) := by
  refine ⟨by unfold step; rw [List.length_set]; exact hN.len, fun b hb => ?_⟩
  by_cases hba : b = a
  · subst hba
    rw [step_at hN ha (by omega)]
    have := hN.b b ha
    omega
  · rw [step_ne ha hb hba]
    exact hN.b b hb
theorem step_le (hN : Nx E next) (ha : inb a E) (hlt : rd next a < ((rowAt E a).length : Int)) (hM : (rowAt E a).length ≤ 2000000) (b : Int) (hb : inb b E) : rd next b ≤ rd (step next a) b := by
  by_cases hba : b = a
  · subst hba
    rw [step_at hN ha (by omega)]
    omega
  · rw [step_ne ha hb hba]
    exact Int.le_refl _
theorem Ex.mono {b : Int} (h : Ex E next b) (hl : rd next b ≤ rd nx b) : Ex E nx b := ⟨h.1, Int.le_trans h.2 hl⟩
theorem DeadE.mono {b e : Int} (h : DeadE E tt left V next b e) (hl : rd next (rd tt e) ≤ rd nx (rd tt e)) : DeadE E tt left V nx b e := by
  rcases h with h | h | h
  · exact .inl h
  · exact .inr (.inl h)
  · exact .inr (.inr (h.mono hl))
theorem rd_mem (l : List Int) (i : Int) (h0 : 0 ≤ i) (h1 : i < (l.length : Int)) : rd l i ∈ l := by
  rw [rd, List.getD_eq_getElem?_getD, List.getElem?_eq_getElem (by omega), Option.getD_some]
  exact List.getElem_mem _
theorem dead_step (hNet : Net E tt) (hN : Nx E next) (ha : inb a E) (hlt : rd next a < ((rowAt E a).length : Int)) (hd : Dead E tt left V next) (he : DeadE E tt left V next a (edgeAt E next a)) : Dead E tt left V (step next a) := by
  intro b hb j h0 h1 h2
  have hto := hNet.tgt _ (hNet.row b hb _ (rd_mem (rowAt E b) j h0 h2)).1
  have hle := step_le hN ha hlt (hNet.rl a)
  have hrl := hNet.rl a
  by_cases hba : b = a
  · subst hba
    rw [step_at hN ha (by omega)] at h1
    by_cases hj : j = rd next b
    · subst hj
      exact DeadE.mono he (hle _ hto)
    · exact (hd b hb j h0 (by omega) h2).mono (hle _ hto)
  · rw [step_ne ha hb hba] at h1
    exact (hd b hb j h0 h1 h2).mono (hle _ hto)
end
theorem push_ok {E : List (List Int)} {tt V : List Int} {I : List Bool} (hNet : Net E tt) (hV : LV E I V) (M : Nat) (hM : ∀ a, (rowAt E a).length ≤ M) : ∀ (d : Nat) (a : Int), inb a E → rdB I a = true → 1001 ≤ rd V a + (d : Int) →
    ∀ (k : Nat) (most : Int) (left next : List Int), d * (M + 3) + 1 ≤ k → 0 < most → Lft tt left → Nx E next →
    ∃ r left' next', push E tt V k a most left next = some (r, left', next') ∧ PP E tt V a most left next r left' next' ∧
      ∀ mB, (mB = most ∨ (a ≠ (E.length : Int) - 1 ∧ 1125899906842624 ≤ most ∧ 1125899906842624 ≤ mB)) → push E tt (sp I V) k a mB left next = some (r, left', next') := by
  have hn2 := hNet.n2
  have hnM := hNet.nM
  have hsink : wrap64 ((E.length : Int) - 1) = (E.length : Int) - 1 := wrap_id (by omega) (by omega)
  have hIV : I.length = V.length := by rw [hV.lI, hV.lV]
  intro d
  induction d with
  | zero =>
    intro a ha hI hd
    have := (hV.v a ha).2.1
    omega
  | succ d ihd =>
    intro a ha hI hd k most left next hk hmost hL hN
    obtain ⟨k, rfl⟩ : ∃ m, k = m + 1 := ⟨k - 1, by omega⟩
    rw [Nat.succ_mul] at hk
    rw [push, hsink]
    by_cases hs : a = (E.length : Int) - 1
    · rw [if_pos hs]
      refine ⟨most, left, next, rfl, ⟨by omega, Int.le_refl _, hL, hN, fun _ _ _ => rfl, fun h_ => by omega, fun S hS => by rw [hs, hS]; simp⟩, fun mB hmB => ?_⟩
      rcases hmB with rfl | ⟨h_, _⟩
      · rw [push, hsink, if_pos hs]
      · exact absurd hs h_
    · rw [if_neg hs]
      have loop : ∀ (t k : Nat) (left next : List Int), (rowAt E a).length - (rd next a).toNat ≤ t → d * (M + 3) + 1 + t + 1 ≤ k → Lft tt left → Nx E next →
          ∃ r left' next', pushL E tt V k a most left next = some (r, left', next') ∧ PP E tt V a most left next r left' next' ∧
            ∀ mB, (mB = most ∨ (1125899906842624 ≤ most ∧ 1125899906842624 ≤ mB)) → pushL E tt (sp I V) k a mB left next = some (r, left', next') := by
        intro t
        induction t with
        | zero =>
          intro k left next ht hk hL hN
          obtain ⟨k, rfl⟩ : ∃ m, k = m + 1 := ⟨k - 1, by omega⟩
          have hb := hN.b a ha
          have haN : inb a next ∧ inb a E := ⟨⟨ha.1, by rw [hN.len]; exact ha.2⟩, ha⟩
          refine ⟨0, left, next, by rw [pushL, if_pos haN, if_neg (by omega)], ⟨Int.le_refl _, by omega, hL, hN, fun _ _ _ => rfl, fun _ => ⟨rfl, fun _ _ => Int.le_refl _, fun _ _ _ => rfl, fun hd => ⟨hd, hs, by omega⟩⟩, fun S hS => by simp⟩, fun mB _ => by rw [pushL, if_pos haN, if_neg (by omega)]⟩
        | succ t iht =>
          intro k left next ht hk hL hN
          obtain ⟨k, rfl⟩ : ∃ m, k = m + 1 := ⟨k - 1, by omega⟩
          have hb := hN.b a ha
          have haN : inb a next ∧ inb a E := ⟨⟨ha.1, by rw [hN.len]; exact ha.2⟩, ha⟩
          by_cases hlt : rd next a < ((rowAt E a).length : Int)
          · have hmem := rd_mem (rowAt E a) (rd next a) hb.1 hlt
            have hee : rd (rowAt E a) (rd next a) = edgeAt E next a := rfl
            rw [hee] at hmem
            obtain ⟨het, hea⟩ := hNet.row a ha _ hmem
            have hto := hNet.tgt _ het
            have hel : inb (edgeAt E next a) left := ⟨het.1, by rw [hL.len]; exact het.2⟩
            have haV : inb a V := ⟨ha.1, by rw [hV.lV]; exact ha.2⟩
            have haS : inb a (sp I V) := ⟨ha.1, by rw [sp_len hIV, hV.lV]; exact ha.2⟩
            have htV : inb (rd tt (edgeAt E next a)) V := ⟨hto.1, by rw [hV.lV]; exact hto.2⟩
            have htS : inb (rd tt (edgeAt E next a)) (sp I V) := ⟨hto.1, by rw [sp_len hIV, hV.lV]; exact hto.2⟩
            have hrl := hNet.rl a
            have hst := step_at hN ha (by omega)
            have go : ∀ nx : List Int, Nx E nx → (∀ b, inb b E → rd next b ≤ rd nx b) → (∀ b, inb b E → rd V b < rd V a → rd nx b = rd next b) → rd nx a = rd next a → (Dead E tt left V next → Dead E tt left V (step nx a)) →
                ∃ r left' next', pushL E tt V k a most left (step nx a) = some (r, left', next') ∧ PP E tt V a most left next r left' next' ∧
                  ∀ mB, (mB = most ∨ (1125899906842624 ≤ most ∧ 1125899906842624 ≤ mB)) → pushL E tt (sp I V) k a mB left (step nx a) = some (r, left', next') := by
              intro nx hnx h1 h2 h3 h4
              have hst := step_at hnx ha (by omega)
              have hlt' : rd nx a < ((rowAt E a).length : Int) := by rw [h3]; exact hlt
              obtain ⟨r, left', next', e1, e2, e3⟩ := iht k left (step nx a) (by rw [hst, h3]; omega) (by omega) hL (step_Nx hnx ha hlt' hrl)
              refine ⟨r, left', next', e1, e2.adv (fun b hb => Int.le_trans (h1 b hb) (step_le hnx ha hlt' hrl b hb)) (fun b hb hv => ?_) h4, e3⟩
              rw [step_ne ha hb (fun e_ => by rw [e_] at hv; omega)]
              exact h2 b hb hv
            have hsa : rd (sp I V) a = rd V a := by rw [sp_rd hIV a haV, if_pos hI]
            have hva := hV.v a ha
            have hvt := hV.v _ hto
            have hw : wrap64 (rd V a + 1) = rd V a + 1 := wrap_id (by omega) (by omega)
            have hcond : (rd (sp I V) (rd tt (edgeAt E next a)) ≠ rd V a + 1) ↔ (rd V (rd tt (edgeAt E next a)) ≠ rd V a + 1) := by
              rw [sp_rd hIV _ htV]
              by_cases hm : rdB I (rd tt (edgeAt E next a)) = true
              · rw [if_pos hm]
              · rw [if_neg hm, hvt.2.2 (by simpa using hm)]
                constructor <;> intro _ <;> omega
            have eqL : ∀ mB, pushL E tt (sp I V) (k + 1) a mB left next = if rd left (edgeAt E next a) = 0 then pushL E tt (sp I V) k a mB left (step next a) else if rd V (rd tt (edgeAt E next a)) ≠ rd V a + 1 then pushL E tt (sp I V) k a mB left (step next a) else
                (push E tt (sp I V) k (rd tt (edgeAt E next a)) (mn mB (rd left (edgeAt E next a))) left next).bind fun r =>
                if 0 < r.1 then pushT (edgeAt E next a) r.1 r.2.1 r.2.2
                else if inb a r.2.2 then pushL E tt (sp I V) k a mB r.2.1 (step r.2.2 a) else none := fun mB => by
              rw [pushL, if_pos haN, if_pos hlt, if_pos ⟨hb.1, hel, het, haS⟩, if_pos htS, hsa, hw]
              split
              · rfl
              · by_cases hc : rd V (rd tt (edgeAt E next a)) ≠ rd V a + 1
                · rw [if_pos hc, if_pos (hcond.2 hc)]
                · rw [if_neg hc, if_neg (fun h_ => hc (hcond.1 h_))]
            have eqL' : pushL E tt V (k + 1) a most left next = if rd left (edgeAt E next a) = 0 then pushL E tt V k a most left (step next a) else if rd V (rd tt (edgeAt E next a)) ≠ rd V a + 1 then pushL E tt V k a most left (step next a) else
                (push E tt V k (rd tt (edgeAt E next a)) (mn most (rd left (edgeAt E next a))) left next).bind fun r =>
                if 0 < r.1 then pushT (edgeAt E next a) r.1 r.2.1 r.2.2
                else if inb a r.2.2 then pushL E tt V k a most r.2.1 (step r.2.2 a) else none := by
              rw [pushL, if_pos haN, if_pos hlt, if_pos ⟨hb.1, hel, het, haV⟩, if_pos htV, hw]
            rw [eqL']
            simp only [eqL]
            by_cases hl0 : rd left (edgeAt E next a) = 0
            · simp only [if_pos hl0]
              exact go next hN (fun _ _ => Int.le_refl _) (fun _ _ _ => rfl) rfl (fun hd => dead_step hNet hN ha hlt hd (.inl hl0))
            · simp only [if_neg hl0]
              by_cases hc : rd V (rd tt (edgeAt E next a)) ≠ rd V a + 1
              · simp only [if_pos hc]
                exact go next hN (fun _ _ => Int.le_refl _) (fun _ _ _ => rfl) rfl (fun hd => dead_step hNet hN ha hlt hd (.inr (.inl hc)))
              · simp only [if_neg hc]
                have hc' : rd V (rd tt (edgeAt E next a)) = rd V a + 1 := Decidable.not_not.1 hc
                have htI : rdB I (rd tt (edgeAt E next a)) = true := by
                  cases h_ : rdB I (rd tt (edgeAt E next a))
                  · have := hvt.2.2 h_
                    omega
                  · rfl
                have hlp : 0 < rd left (edgeAt E next a) := by have := hL.nn _ hel; omega
                have hlC := hL.le hNet.ev hNet.tM hel
                have hmn : mn most (rd left (edgeAt E next a)) ≤ rd left (edgeAt E next a) ∧ mn most (rd left (edgeAt E next a)) ≤ most ∧ 0 < mn most (rd left (edgeAt E next a)) := by
                  unfold mn; split <;> omega
                obtain ⟨r, left1, next1, e1, e2, e3⟩ := ihd _ hto htI (by omega) k (mn most (rd left (edgeAt E next a))) left next (by omega) hmn.2.2 hL hN
                have e3' : ∀ mB, (mB = most ∨ (1125899906842624 ≤ most ∧ 1125899906842624 ≤ mB)) → push E tt (sp I V) k (rd tt (edgeAt E next a)) (mn mB (rd left (edgeAt E next a))) left next = some (r, left1, next1) := fun mB hmB => by
                  refine e3 _ (.inl ?_)
                  rcases hmB with rfl | ⟨h1, h2⟩
                  · rfl
                  · unfold mn
                    split <;> split <;> omega
                rw [e1, Option.bind_some]
                by_cases hr : 0 < r
                · have hle1 : rd left1 (edgeAt E next a) = rd left (edgeAt E next a) := e2.u _ het (by rw [hea]; omega)
                  have hel1 : inb (edgeAt E next a) left1 := ⟨het.1, by rw [e2.L.len]; exact het.2⟩
                  have hrm := e2.rm
                  obtain ⟨left2, f1, f2, f3, f4⟩ := pushT_ok e2.L hNet.ev hNet.tM hel1 hr (by omega) next1
                  refine ⟨r, left2, next1, by simp only [if_pos hr]; exact f1, ⟨by omega, by omega, f2, e2.N, fun i hi hv => ?_, fun h_ => by omega, fun S hS => ?_⟩, fun mB hmB => ?_⟩
                  · have hi1 : inb i left1 := ⟨hi.1, by rw [e2.L.len]; exact hi.2⟩
                    have hbk := back_inb hNet.ev hNet.tM het
                    rw [f3 i hi1 (fun e_ => by rw [e_, hea] at hv; omega) (fun e_ => by rw [e_, hbk.2.1] at hv; omega)]
                    exact e2.u i hi (by omega)
                  · rw [f4 S, e2.c S hS, hea]
                    omega
                  · rw [e3' mB hmB, Option.bind_some]
                    simp only [if_pos hr]
                    exact f1
                · have hr0 : r = 0 := by have := e2.r0; omega
                  obtain ⟨g1, g2, g3, g4⟩ := e2.z hr0
                  have haN1 : inb a next1 := ⟨ha.1, by rw [e2.N.len]; exact ha.2⟩
                  have hna : rd next1 a = rd next a := g3 a ha (by omega)
                  obtain ⟨r2, left2, next2, f1, f2, f3⟩ := go next1 e2.N g2 (fun b hb hv => g3 b hb (by omega)) hna (fun hd => by
                    obtain ⟨d1, d2⟩ := g4 hd
                    refine dead_step hNet e2.N ha (by rw [hna]; exact hlt) d1 (.inr (.inr ?_))
                    rw [edgeAt, hna]
                    exact d2)
                  refine ⟨r2, left2, next2, ?_, f2, fun mB hmB => ?_⟩
                  · simp only [if_neg hr, if_pos haN1]
                    rw [g1]
                    exact f1
                  · rw [e3' mB hmB, Option.bind_some]
                    simp only [if_neg hr, if_pos haN1]
                    rw [g1]
                    exact f3 mB hmB
          · refine ⟨0, left, next, by rw [pushL, if_pos haN, if_neg hlt], ⟨Int.le_refl _, by omega, hL, hN, fun _ _ _ => rfl, fun _ => ⟨rfl, fun _ _ => Int.le_refl _, fun _ _ _ => rfl, fun hd => ⟨hd, hs, by omega⟩⟩, fun S hS => by simp⟩, fun mB _ => by rw [pushL, if_pos haN, if_neg hlt]⟩
      have hMa := hM a
      obtain ⟨r, left', next', e1, e2, e3⟩ := loop M k left next (by omega) (by omega) hL hN
      refine ⟨r, left', next', e1, e2, fun mB hmB => ?_⟩
      rw [push, hsink, if_neg hs]
      refine e3 mB ?_
      rcases hmB with h_ | h_
      · exact .inl h_
      · exact .inr h_.2
end Go.Proofs.Ytclpjlaielphfaa.Flow
end
