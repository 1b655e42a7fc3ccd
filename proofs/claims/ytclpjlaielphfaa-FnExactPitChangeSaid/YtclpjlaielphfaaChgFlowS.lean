/- Used by the claim's last text. -/
import Derived.Test.YtclpjlaielphfaaChgFlowQ
import Derived.Laws.BitsLemmas
import Derived.Test.YtclpjlaielphfaaChgFlowM
section
namespace Go.Proofs.Ytclpjlaielphfaa.Flow
open Go Go.RowKit Go.Proofs.YtclpjlaielphfaaW.PrintWords Go.Proofs.YtclpjlaielphfaaW.PrintLast Go.Proofs.YtclpjlaielphfaaW.PrintMore
set_option linter.unusedVariables false
set_option linter.unusedSimpArgs false
theorem xor_one (n : Nat) : n ^^^ 1 = if n % 2 = 0 then n + 1 else n - 1 := by
  have h1 : (n ^^^ 1) / 2 = n / 2 := by rw [Nat.xor_div_two]; simp
  have h2 : (n ^^^ 1) % 2 = 1 ↔ ¬ (n % 2 = 1 ↔ 1 % 2 = 1) := Nat.xor_mod_two_eq_one
  split <;> omega
theorem back_of (e : Int) (h0 : 0 ≤ e) (h1 : e < 4611686018427387904) : back e = if e % 2 = 0 then e + 1 else e - 1 := by
  obtain ⟨n, rfl⟩ := Int.eq_ofNat_of_zero_le h0
  have hx : n ^^^ 1 < 2 ^ 62 := Nat.xor_lt_two_pow (by omega) (by omega)
  have h2 : (BitVec.ofInt 64 (n : Int)).toNat = n := by
    rw [BitVec.ofInt_natCast, BitVec.toNat_ofNat]; exact Nat.mod_eq_of_lt (by omega)
  have h3 : back (n : Int) = ((n ^^^ 1 : Nat) : Int) := by
    show IntKind.i64.wrap (((BitVec.ofInt 64 (n : Int) ^^^ BitVec.ofInt 64 1 : BitVec 64).toNat : Nat) : Int) = _
    rw [BitVec.toNat_xor, h2, show (BitVec.ofInt 64 1).toNat = 1 from rfl, IntKind.wrap_i64]
    omega
  rw [h3, xor_one]
  split <;> split <;> omega
section
variable {tt left : List Int}
theorem back_inb {l : List Int} (hv : ∃ m : Nat, l.length = 2 * m) (hm : l.length ≤ 2000000) {e : Int} (h : inb e l) : inb (back e) l ∧ back (back e) = e ∧ back e ≠ e := by
  obtain ⟨m, hv⟩ := hv
  have h1 := h.1
  have h2 := h.2
  have hb := back_of e h1 (by omega)
  have hb2 : 0 ≤ back e ∧ back e < (l.length : Int) := by rw [hb]; split <;> omega
  refine ⟨hb2, ?_, ?_⟩
  · rw [back_of (back e) hb2.1 (by omega), hb]
    split <;> split <;> omega
  · rw [hb]; split <;> omega
def wsum (f : Nat → Int) : List Int → Int
  | [] => 0
  | x :: l => f 0 * x + wsum (fun i => f (i + 1)) l
theorem wsum_set : ∀ (l : List Int) (f : Nat → Int) (i : Nat) (v : Int), i < l.length → wsum f (l.set i v) = wsum f l + f i * (v - l.getD i 0)
  | [], _, _, _, h => by simp at h
  | x :: l, f, 0, v, _ => by
    simp only [List.set_cons_zero, wsum, List.getD_cons_zero, Int.mul_sub]
    omega
  | x :: l, f, i + 1, v, h => by
    simp only [List.set_cons_succ, wsum, List.getD_cons_succ]
    rw [wsum_set l _ i v (by simpa using h)]
    omega
def cf (tt : List Int) (S : Int → Bool) (i : Nat) : Int := if S (rd tt (back (i : Int))) = true ∧ S (rd tt (i : Int)) = false then 1 else 0
def cutw (tt : List Int) (S : Int → Bool) (left : List Int) : Int := wsum (cf tt S) left
theorem cutw_set (tt : List Int) (S : Int → Bool) (left : List Int) (i v : Int) (h : inb i left) : cutw tt S (left.set i.toNat v) = cutw tt S left + (if S (rd tt (back i)) = true ∧ S (rd tt i) = false then v - rd left i else 0) := by
  unfold cutw
  have h1 := h.1
  have h2 := h.2
  rw [wsum_set left _ i.toNat v (by omega), cf, Int.toNat_of_nonneg h1, ← rd]
  split <;> simp
structure Lft (tt left : List Int) : Prop where
  len : left.length = tt.length
  nn : ∀ e, inb e left → 0 ≤ rd left e
  pair : ∀ e, inb e left → rd left e + rd left (back e) ≤ 1125899906842624
theorem Lft.le (h : Lft tt left) (hv : ∃ m : Nat, tt.length = 2 * m) (hm : tt.length ≤ 2000000) {e : Int} (he : inb e left) : rd left e ≤ 1125899906842624 := by
  have h1 := h.pair e he
  have h2 := h.nn (back e) (back_inb (by rw [h.len]; exact hv) (by rw [h.len]; exact hm) he).1
  omega
theorem pushT_ok (hL : Lft tt left) (hv : ∃ m : Nat, tt.length = 2 * m) (hm : tt.length ≤ 2000000) {e s : Int} (he : inb e left) (hs : 0 < s) (hse : s ≤ rd left e) (next : List Int) :
    ∃ left', pushT e s left next = some (s, left', next) ∧ Lft tt left' ∧ (∀ i, inb i left → i ≠ e → i ≠ back e → rd left' i = rd left i) ∧
    ∀ S : Int → Bool, cutw tt S left' = cutw tt S left - (if S (rd tt (back e)) = true then s else 0) + (if S (rd tt e) = true then s else 0) := by
  obtain ⟨hb, hbb, hne⟩ := back_inb (by rw [hL.len]; exact hv) (by rw [hL.len]; exact hm) he
  have hle := hL.le hv hm he
  have hp := hL.pair e he
  have hnb := hL.nn _ hb
  have hw1 : wrap64 (rd left e - s) = rd left e - s := wrap_id (by omega) (by omega)
  have hrb : rd (left.set e.toNat (rd left e - s)) (back e) = rd left (back e) := rd_set_ne _ _ _ _ he.1 hb.1 (Ne.symm hne)
  have hw2 : wrap64 (rd left (back e) + s) = rd left (back e) + s := wrap_id (by omega) (by omega)
  have hb2 : inb (back e) (left.set e.toNat (rd left e - s)) := ⟨hb.1, by rw [List.length_set]; exact hb.2⟩
  have r1 : rd ((left.set e.toNat (rd left e - s)).set (back e).toNat (rd left (back e) + s)) (back e) = rd left (back e) + s := rd_set_eq _ _ _ hb2
  have r2 : rd ((left.set e.toNat (rd left e - s)).set (back e).toNat (rd left (back e) + s)) e = rd left e - s := by
    rw [rd_set_ne _ _ _ _ hb.1 he.1 hne]
    exact rd_set_eq _ _ _ he
  have r3 : ∀ i, inb i left → i ≠ e → i ≠ back e → rd ((left.set e.toNat (rd left e - s)).set (back e).toNat (rd left (back e) + s)) i = rd left i := fun i hi h1 h2 => by
    rw [rd_set_ne _ _ _ _ hb.1 hi.1 (Ne.symm h2), rd_set_ne _ _ _ _ he.1 hi.1 (Ne.symm h1)]
  refine ⟨(left.set e.toNat (rd left e - s)).set (back e).toNat (rd left (back e) + s), ?_, ⟨by simp [hL.len], fun i hi => ?_, fun i hi => ?_⟩, r3, fun S => ?_⟩
  · unfold pushT
    rw [if_pos he, if_pos hb, hw1, hrb, hw2]
  · have hi' : inb i left := ⟨hi.1, by have := hi.2; simp at this; exact this⟩
    by_cases h1 : i = e
    · rw [h1, r2]; omega
    · by_cases h2 : i = back e
      · rw [h2, r1]; omega
      · rw [r3 i hi' h1 h2]; exact hL.nn i hi'
  · have hi' : inb i left := ⟨hi.1, by have := hi.2; simp at this; exact this⟩
    by_cases h1 : i = e
    · rw [h1, r2, r1]; omega
    · by_cases h2 : i = back e
      · rw [h2, r1, hbb, r2]; omega
      · obtain ⟨hib, hibb, _⟩ := back_inb (by rw [hL.len]; exact hv) (by rw [hL.len]; exact hm) hi'
        rw [r3 i hi' h1 h2, r3 (back i) hib (fun e_ => h2 (by rw [← e_, hibb])) (fun e_ => h1 (by rw [← hibb, e_, hbb]))]
        exact hL.pair i hi'
  · rw [cutw_set _ _ _ _ _ hb2, cutw_set _ _ _ _ _ he, hbb, hrb]
    cases S (rd tt (back e)) <;> cases S (rd tt e) <;> simp <;> omega
end
structure LV (E : List (List Int)) (I : List Bool) (V : List Int) : Prop where
  lI : I.length = E.length
  lV : V.length = E.length
  v : ∀ b, inb b E → 0 ≤ rd V b ∧ rd V b ≤ 1000 ∧ (rdB I b = false → rd V b = 0)
theorem Lev.lv {E : List (List Int)} {tt left : List Int} {I : List Bool} {V : List Int} (h : Lev E tt left I V) : LV E I V := ⟨h.lI, h.lV, h.v⟩
structure Nx (E : List (List Int)) (next : List Int) : Prop where
  len : next.length = E.length
  b : ∀ a, inb a E → 0 ≤ rd next a ∧ rd next a ≤ ((rowAt E a).length : Int)
def Ex (E : List (List Int)) (next : List Int) (b : Int) : Prop := b ≠ (E.length : Int) - 1 ∧ ((rowAt E b).length : Int) ≤ rd next b
def DeadE (E : List (List Int)) (tt left V next : List Int) (b e : Int) : Prop := rd left e = 0 ∨ rd V (rd tt e) ≠ rd V b + 1 ∨ Ex E next (rd tt e)
def Dead (E : List (List Int)) (tt left V next : List Int) : Prop := ∀ b, inb b E → ∀ j : Int, 0 ≤ j → j < rd next b → j < ((rowAt E b).length : Int) → DeadE E tt left V next b (rd (rowAt E b) j)
structure PP (E : List (List Int)) (tt V : List Int) (a most : Int) (left next : List Int) (r : Int) (left' next' : List Int) : Prop where
  r0 : 0 ≤ r
  rm : r ≤ most
  L : Lft tt left'
  N : Nx E next'
  u : ∀ i, inb i tt → rd V (rd tt (back i)) < rd V a → rd left' i = rd left i
  z : r = 0 → left' = left ∧ (∀ b, inb b E → rd next b ≤ rd next' b) ∧ (∀ b, inb b E → rd V b < rd V a → rd next' b = rd next b) ∧ (Dead E tt left V next → Dead E tt left V next' ∧ Ex E next' a)
  c : ∀ S : Int → Bool, S ((E.length : Int) - 1) = false → cutw tt S left' = cutw tt S left - (if S a = true then r else 0)
section
variable {E : List (List Int)} {tt V left next nx left' next' : List Int} {a most r : Int}
theorem PP.adv (h : PP E tt V a most left nx r left' next') (h1 : ∀ b, inb b E → rd next b ≤ rd nx b) (h2 : ∀ b, inb b E → rd V b < rd V a → rd nx b = rd next b) (h3 : Dead E tt left V next → Dead E tt left V nx) : PP E tt V a most left next r left' next' :=
  { h with z := fun hr => ⟨(h.z hr).1, fun b hb => Int.le_trans (h1 b hb) ((h.z hr).2.1 b hb), fun b hb hv => ((h.z hr).2.2.1 b hb hv).trans (h2 b hb hv), fun hd => (h.z hr).2.2.2 (h3 hd)⟩ }
theorem step_at (hN : Nx E next) (ha : inb a E) (hlt : rd next a < 4611686018427387904) : rd (step next a) a = rd next a + 1 := by
  have h0 := (hN.b a ha).1
  unfold step
  rw [rd_set_eq _ _ _ ⟨ha.1, by rw [hN.len]; exact ha.2⟩, wrap_id (by omega) (by omega)]
theorem step_ne {b : Int} (ha : inb a E) (hb : inb b E) (h : b ≠ a) : rd (step next a) b = rd next b := by
  unfold step
  exact rd_set_ne _ _ _ _ ha.1 hb.1 (Ne.symm h)
theorem step_Nx (hN : Nx E next) (ha : inb a E) (hlt : rd next a < ((rowAt E a).length : Int)) (hM : (rowAt E a).length ≤ 2000000) : Nx E (step next a) := by
  refine ⟨by unfold step; rw [List.length_set]; exact hN.len, fun b hb => ?_⟩
  by_cases hba : b = a
  · subst hba
    rw [step_at hN ha (by omega)]
    have := hN.b b ha
    omega
  · rw [step_ne ha hb hba]
    exact hN.b b hb
theorem step_le (hN : Nx E next) (ha : inb a E) (hlt : rd next a < ((rowAt E a).length : Int)) (hM : (rowAt E a).length ≤ 2000000) (b : Int) (hb : inb b E) : rd next b ≤ rd (step next a) b := by
  by_cases hba : b = a
  · subst hba
    rw [step_at hN ha (by omega)]
    omega
  · rw [step_ne ha hb hba]
    exact Int.le_refl _
theorem Ex.mono {b : Int} (h : Ex E next b) (hl : rd next b ≤ rd nx b) : Ex E nx b := ⟨h.1, Int.le_trans h.2 hl⟩
theorem DeadE.mono {b e : Int} (h : DeadE E tt left V next b e) (hl : rd next (rd tt e) ≤ rd nx (rd tt e)) : DeadE E tt left V nx b e := by
  rcases h with h | h | h
  · exact .inl h
  · exact .inr (.inl h)
  · exact .inr (.inr (h.mono hl))
theorem rd_mem (l : List Int) (i : Int) (h0 : 0 ≤ i) (h1 : i < (l.length : Int)) : rd l i ∈ l := by
  rw [rd, List.getD_eq_getElem?_getD, List.getElem?_eq_getElem (by omega), Option.getD_some]
  exact List.getElem_mem _
theorem dead_step (hNet : Net E tt) (hN : Nx E next) (ha : inb a E) (hlt : rd next a < ((rowAt E a).length : Int)) (hd : Dead E tt left V next) (he : DeadE E tt left V next a (edgeAt E next a)) : Dead E tt left V (step next a) := by
  intro b hb j h0 h1 h2
  have hto := hNet.tgt _ (hNet.row b hb _ (rd_mem (rowAt E b) j h0 h2)).1
  have hle := step_le hN ha hlt (hNet.rl a)
  have hrl := hNet.rl a
  by_cases hba : b = a
  · subst hba
    rw [step_at hN ha (by omega)] at h1
    by_cases hj : j = rd next b
    · subst hj
      exact DeadE.mono he (hle _ hto)
    · exact (hd b hb j h0 (by omega) h2).mono (hle _ hto)
  · rw [step_ne ha hb hba] at h1
    exact (hd b hb j h0 h1 h2).mono (hle _ hto)
end
theorem push_ok {E : List (List Int)} {tt V : List Int} {I : List Bool} (hNet : Net E tt) (hV : LV E I V) (M : Nat) (hM : ∀ a, (rowAt E a).length ≤ M) : ∀ (d : Nat) (a : Int), inb a E → rdB I a = true → 1001 ≤ rd V a + (d : Int) →
    ∀ (k : Nat) (most : Int) (left next : List Int), d * (M + 3) + 1 ≤ k → 0 < most → Lft tt left → Nx E next →
    ∃ r left' next', push E tt V k a most left next = some (r, left', next') ∧ PP E tt V a most left next r left' next' ∧
      ∀ mB, (mB = most ∨ (a ≠ (E.length : Int) - 1 ∧ 1125899906842624 ≤ most ∧ 1125899906842624 ≤ mB)) → push E tt (sp I V) k a mB left next = some (r, left', next') := by
  have hn2 := hNet.n2
  have hnM := hNet.nM
  have hsink : wrap64 ((E.length : Int) - 1) = (E.length : Int) - 1 := wrap_id (by omega) (by omega)
  have hIV : I.length = V.length := by rw [hV.lI, hV.lV]
  intro d
  induction d with
  | zero =>
    intro a ha hI hd
    have := (hV.v a ha).2.1
    omega
  | succ d ihd =>
    intro a ha hI hd k most left next hk hmost hL hN
    obtain ⟨k, rfl⟩ : ∃ m, k = m + 1 := ⟨k - 1, by omega⟩
    rw [Nat.succ_mul] at hk
    rw [push, hsink]
    by_cases hs : a = (E.length : Int) - 1
    · rw [if_pos hs]
      refine ⟨most, left, next, rfl, ⟨by omega, Int.le_refl _, hL, hN, fun _ _ _ => rfl, fun h_ => by omega, fun S hS => by rw [hs, hS]; simp⟩, fun mB hmB => ?_⟩
      rcases hmB with rfl | ⟨h_, _⟩
      · rw [push, hsink, if_pos hs]
      · exact absurd hs h_
    · rw [if_neg hs]
      have loop : ∀ (t k : Nat) (left next : List Int), (rowAt E a).length - (rd next a).toNat ≤ t → d * (M + 3) + 1 + t + 1 ≤ k → Lft tt left → Nx E next →
          ∃ r left' next', pushL E tt V k a most left next = some (r, left', next') ∧ PP E tt V a most left next r left' next' ∧
            ∀ mB, (mB = most ∨ (1125899906842624 ≤ most ∧ 1125899906842624 ≤ mB)) → pushL E tt (sp I V) k a mB left next = some (r, left', next') := by
        intro t
        induction t with
        | zero =>
          intro k left next ht hk hL hN
          obtain ⟨k, rfl⟩ : ∃ m, k = m + 1 := ⟨k - 1, by omega⟩
          have hb := hN.b a ha
          have haN : inb a next ∧ inb a E := ⟨⟨ha.1, by rw [hN.len]; exact ha.2⟩, ha⟩
          refine ⟨0, left, next, by rw [pushL, if_pos haN, if_neg (by omega)], ⟨Int.le_refl _, by omega, hL, hN, fun _ _ _ => rfl, fun _ => ⟨rfl, fun _ _ => Int.le_refl _, fun _ _ _ => rfl, fun hd => ⟨hd, hs, by omega⟩⟩, fun S hS => by simp⟩, fun mB _ => by rw [pushL, if_pos haN, if_neg (by omega)]⟩
        | succ t iht =>
          intro k left next ht hk hL hN
          obtain ⟨k, rfl⟩ : ∃ m, k = m + 1 := ⟨k - 1, by omega⟩
          have hb := hN.b a ha
          have haN : inb a next ∧ inb a E := ⟨⟨ha.1, by rw [hN.len]; exact ha.2⟩, ha⟩
          by_cases hlt : rd next a < ((rowAt E a).length : Int)
          · have hmem := rd_mem (rowAt E a) (rd next a) hb.1 hlt
            have hee : rd (rowAt E a) (rd next a) = edgeAt E next a := rfl
            rw [hee] at hmem
            obtain ⟨het, hea⟩ := hNet.row a ha _ hmem
            have hto := hNet.tgt _ het
            have hel : inb (edgeAt E next a) left := ⟨het.1, by rw [hL.len]; exact het.2⟩
            have haV : inb a V := ⟨ha.1, by rw [hV.lV]; exact ha.2⟩
            have haS : inb a (sp I V) := ⟨ha.1, by rw [sp_len hIV, hV.lV]; exact ha.2⟩
            have htV : inb (rd tt (edgeAt E next a)) V := ⟨hto.1, by rw [hV.lV]; exact hto.2⟩
            have htS : inb (rd tt (edgeAt E next a)) (sp I V) := ⟨hto.1, by rw [sp_len hIV, hV.lV]; exact hto.2⟩
            have hrl := hNet.rl a
            have hst := step_at hN ha (by omega)
            have go : ∀ nx : List Int, Nx E nx → (∀ b, inb b E → rd next b ≤ rd nx b) → (∀ b, inb b E → rd V b < rd V a → rd nx b = rd next b) → rd nx a = rd next a → (Dead E tt left V next → Dead E tt left V (step nx a)) →
                ∃ r left' next', pushL E tt V k a most left (step nx a) = some (r, left', next') ∧ PP E tt V a most left next r left' next' ∧
                  ∀ mB, (mB = most ∨ (1125899906842624 ≤ most ∧ 1125899906842624 ≤ mB)) → pushL E tt (sp I V) k a mB left (step nx a) = some (r, left', next') := by
              intro nx hnx h1 h2 h3 h4
              have hst := step_at hnx ha (by omega)
              have hlt' : rd nx a < ((rowAt E a).length : Int) := by rw [h3]; exact hlt
              obtain ⟨r, left', next', e1, e2, e3⟩ := iht k left (step nx a) (by rw [hst, h3]; omega) (by omega) hL (step_Nx hnx ha hlt' hrl)
              refine ⟨r, left', next', e1, e2.adv (fun b hb => Int.le_trans (h1 b hb) (step_le hnx ha hlt' hrl b hb)) (fun b hb hv => ?_) h4, e3⟩
              rw [step_ne ha hb (fun e_ => by rw [e_] at hv; omega)]
              exact h2 b hb hv
            have hsa : rd (sp I V) a = rd V a := by rw [sp_rd hIV a haV, if_pos hI]
            have hva := hV.v a ha
            have hvt := hV.v _ hto
            have hw : wrap64 (rd V a + 1) = rd V a + 1 := wrap_id (by omega) (by omega)
            have hcond : (rd (sp I V) (rd tt (edgeAt E next a)) ≠ rd V a + 1) ↔ (rd V (rd tt (edgeAt E next a)) ≠ rd V a + 1) := by
              rw [sp_rd hIV _ htV]
              by_cases hm : rdB I (rd tt (edgeAt E next a)) = true
              · rw [if_pos hm]
              · rw [if_neg hm, hvt.2.2 (by simpa using hm)]
                constructor <;> intro _ <;> omega
            have eqL : ∀ mB, pushL E tt (sp I V) (k + 1) a mB left next = if rd left (edgeAt E next a) = 0 then pushL E tt (sp I V) k a mB left (step next a) else if rd V (rd tt (edgeAt E next a)) ≠ rd V a + 1 then pushL E tt (sp I V) k a mB left (step next a) else
                (push E tt (sp I V) k (rd tt (edgeAt E next a)) (mn mB (rd left (edgeAt E next a))) left next).bind fun r =>
                if 0 < r.1 then pushT (edgeAt E next a) r.1 r.2.1 r.2.2
                else if inb a r.2.2 then pushL E tt (sp I V) k a mB r.2.1 (step r.2.2 a) else none := fun mB => by
              rw [pushL, if_pos haN, if_pos hlt, if_pos ⟨hb.1, hel, het, haS⟩, if_pos htS, hsa, hw]
              split
              · rfl
              · by_cases hc : rd V (rd tt (edgeAt E next a)) ≠ rd V a + 1
                · rw [if_pos hc, if_pos (hcond.2 hc)]
                · rw [if_neg hc, if_neg (fun h_ => hc (hcond.1 h_))]
            have eqL' : pushL E tt V (k + 1) a most left next = if rd left (edgeAt E next a) = 0 then pushL E tt V k a most left (step next a) else if rd V (rd tt (edgeAt E next a)) ≠ rd V a + 1 then pushL E tt V k a most left (step next a) else
                (push E tt V k (rd tt (edgeAt E next a)) (mn most (rd left (edgeAt E next a))) left next).bind fun r =>
                if 0 < r.1 then pushT (edgeAt E next a) r.1 r.2.1 r.2.2
                else if inb a r.2.2 then pushL E tt V k a most r.2.1 (step r.2.2 a) else none := by
              rw [pushL, if_pos haN, if_pos hlt, if_pos ⟨hb.1, hel, het, haV⟩, if_pos htV, hw]
            rw [eqL']
            simp only [eqL]
            by_cases hl0 : rd left (edgeAt E next a) = 0
            · simp only [if_pos hl0]
              exact go next hN (fun _ _ => Int.le_refl _) (fun _ _ _ => rfl) rfl (fun hd => dead_step hNet hN ha hlt hd (.inl hl0))
            · simp only [if_neg hl0]
              by_cases hc : rd V (rd tt (edgeAt E next a)) ≠ rd V a + 1
              · simp only [if_pos hc]
                exact go next hN (fun _ _ => Int.le_refl _) (fun _ _ _ => rfl) rfl (fun hd => dead_step hNet hN ha hlt hd (.inr (.inl hc)))
              · simp only [if_neg hc]
                have hc' : rd V (rd tt (edgeAt E next a)) = rd V a + 1 := Decidable.not_not.1 hc
                have htI : rdB I (rd tt (edgeAt E next a)) = true := by
                  cases h_ : rdB I (rd tt (edgeAt E next a))
                  · have := hvt.2.2 h_
                    omega
                  · rfl
                have hlp : 0 < rd left (edgeAt E next a) := by have := hL.nn _ hel; omega
                have hlC := hL.le hNet.ev hNet.tM hel
                have hmn : mn most (rd left (edgeAt E next a)) ≤ rd left (edgeAt E next a) ∧ mn most (rd left (edgeAt E next a)) ≤ most ∧ 0 < mn most (rd left (edgeAt E next a)) := by
                  unfold mn; split <;> omega
                obtain ⟨r, left1, next1, e1, e2, e3⟩ := ihd _ hto htI (by omega) k (mn most (rd left (edgeAt E next a))) left next (by omega) hmn.2.2 hL hN
                have e3' : ∀ mB, (mB = most ∨ (1125899906842624 ≤ most ∧ 1125899906842624 ≤ mB)) → push E tt (sp I V) k (rd tt (edgeAt E next a)) (mn mB (rd left (edgeAt E next a))) left next = some (r, left1, next1) := fun mB hmB => by
                  refine e3 _ (.inl ?_)
                  rcases hmB with rfl | ⟨h1, h2⟩
                  · rfl
                  · unfold mn
                    split <;> split <;> omega
                rw [e1, Option.bind_some]
                by_cases hr : 0 < r
                · have hle1 : rd left1 (edgeAt E next a) = rd left (edgeAt E next a) := e2.u _ het (by rw [hea]; omega)
                  have hel1 : inb (edgeAt E next a) left1 := ⟨het.1, by rw [e2.L.len]; exact het.2⟩
                  have hrm := e2.rm
                  obtain ⟨left2, f1, f2, f3, f4⟩ := pushT_ok e2.L hNet.ev hNet.tM hel1 hr (by omega) next1
                  refine ⟨r, left2, next1, by simp only [if_pos hr]; exact f1, ⟨by omega, by omega, f2, e2.N, fun i hi hv => ?_, fun h_ => by omega, fun S hS => ?_⟩, fun mB hmB => ?_⟩
                  · have hi1 : inb i left1 := ⟨hi.1, by rw [e2.L.len]; exact hi.2⟩
                    have hbk := back_inb hNet.ev hNet.tM het
                    rw [f3 i hi1 (fun e_ => by rw [e_, hea] at hv; omega) (fun e_ => by rw [e_, hbk.2.1] at hv; omega)]
                    exact e2.u i hi (by omega)
                  · rw [f4 S, e2.c S hS, hea]
                    omega
                  · rw [e3' mB hmB, Option.bind_some]
                    simp only [if_pos hr]
                    exact f1
                · have hr0 : r = 0 := by have := e2.r0; omega
                  obtain ⟨g1, g2, g3, g4⟩ := e2.z hr0
                  have haN1 : inb a next1 := ⟨ha.1, by rw [e2.N.len]; exact ha.2⟩
                  have hna : rd next1 a = rd next a := g3 a ha (by omega)
                  obtain ⟨r2, left2, next2, f1, f2, f3⟩ := go next1 e2.N g2 (fun b hb hv => g3 b hb (by omega)) hna (fun hd => by
                    obtain ⟨d1, d2⟩ := g4 hd
                    refine dead_step hNet e2.N ha (by rw [hna]; exact hlt) d1 (.inr (.inr ?_))
                    rw [edgeAt, hna]
                    exact d2)
                  refine ⟨r2, left2, next2, ?_, f2, fun mB hmB => ?_⟩
                  · simp only [if_neg hr, if_pos haN1]
                    rw [g1]
                    exact f1
                  · rw [e3' mB hmB, Option.bind_some]
                    simp only [if_neg hr, if_pos haN1]
                    rw [g1]
                    exact f3 mB hmB
          · refine ⟨0, left, next, by rw [pushL, if_pos haN, if_neg hlt], ⟨Int.le_refl _, by omega, hL, hN, fun _ _ _ => rfl, fun _ => ⟨rfl, fun _ _ => Int.le_refl _, fun _ _ _ => rfl, fun hd => ⟨hd, hs, by omega⟩⟩, fun S hS => by simp⟩, fun mB _ => by rw [pushL, if_pos haN, if_neg hlt]⟩
      have hMa := hM a
      obtain ⟨r, left', next', e1, e2, e3⟩ := loop M k left next (by omega) (by omega) hL hN
      refine ⟨r, left', next', e1, e2, fun mB hmB => ?_⟩
      rw [push, hsink, if_neg hs]
      refine e3 mB ?_
      rcases hmB with h_ | h_
      · exact .inl h_
      · exact .inr h_.2
end Go.Proofs.Ytclpjlaielphfaa.Flow
end
section
namespace Go.Proofs.Ytclpjlaielphfaa.Flow
open Go Go.RowKit Go.Proofs.YtclpjlaielphfaaW.PrintWords Go.Proofs.YtclpjlaielphfaaW.PrintLast Go.Proofs.YtclpjlaielphfaaW.PrintMore
set_option linter.unusedVariables false
set_option linter.unusedSimpArgs false
theorem wsum_nn : ∀ (l : List Int) (f : Nat → Int), (∀ i, 0 ≤ f i) → (∀ x, x ∈ l → 0 ≤ x) → 0 ≤ wsum f l
  | [], _, _, _ => Int.le_refl _
  | x :: l, f, hf, hl => by
    simp only [wsum]
    have h1 := Int.mul_nonneg (hf 0) (hl x (List.mem_cons_self ..))
    have h2 := wsum_nn l (fun i => f (i + 1)) (fun i => hf _) (fun y hy => hl y (List.mem_cons_of_mem _ hy))
    omega
theorem wsum_ge : ∀ (l : List Int) (f : Nat → Int), (∀ i, 0 ≤ f i) → (∀ x, x ∈ l → 0 ≤ x) → ∀ i, i < l.length → f i * l.getD i 0 ≤ wsum f l
  | [], _, _, _, _, h => by simp at h
  | x :: l, f, hf, hl, 0, _ => by
    simp only [wsum, List.getD_cons_zero]
    have h2 := wsum_nn l (fun i => f (i + 1)) (fun i => hf _) (fun y hy => hl y (List.mem_cons_of_mem _ hy))
    omega
  | x :: l, f, hf, hl, i + 1, h => by
    simp only [wsum, List.getD_cons_succ]
    have h1 := Int.mul_nonneg (hf 0) (hl x (List.mem_cons_self ..))
    have h2 := wsum_ge l (fun i => f (i + 1)) (fun i => hf _) (fun y hy => hl y (List.mem_cons_of_mem _ hy)) i (by simpa using h)
    omega
theorem wsum_zero : ∀ (l : List Int) (f : Nat → Int), (∀ i, i < l.length → f i * l.getD i 0 = 0) → wsum f l = 0
  | [], _, _ => rfl
  | x :: l, f, h => by
    have h1 := h 0 (by simp)
    rw [List.getD_cons_zero] at h1
    have h2 := wsum_zero l (fun i => f (i + 1)) (fun i hi => by have := h (i + 1) (by simpa using hi); rwa [List.getD_cons_succ] at this)
    simp only [wsum]
    omega
theorem cf_nn (tt : List Int) (S : Int → Bool) (i : Nat) : 0 ≤ cf tt S i := by unfold cf; split <;> omega
theorem mem_rd {l : List Int} {x : Int} (h : x ∈ l) : ∃ i, inb i l ∧ rd l i = x := by
  obtain ⟨i, hi, e⟩ := List.mem_iff_getElem.1 h
  exact ⟨(i : Int), ⟨by omega, by omega⟩, by rw [rd_nat l i hi, e]⟩
theorem Lft.all {tt left : List Int} (h : Lft tt left) : ∀ x, x ∈ left → 0 ≤ x := fun x hx => by
  obtain ⟨i, hi, e⟩ := mem_rd hx
  rw [← e]
  exact h.nn i hi
theorem cutw_nn {tt left : List Int} (h : Lft tt left) (S : Int → Bool) : 0 ≤ cutw tt S left := wsum_nn _ _ (cf_nn tt S) h.all
theorem cutw_pos {tt left : List Int} (h : Lft tt left) (S : Int → Bool) (e : Int) (he : inb e tt) (h1 : S (rd tt (back e)) = true) (h2 : S (rd tt e) = false) : rd left e ≤ cutw tt S left := by
  have he0 := he.1
  have he1 := he.2
  have h_ := wsum_ge left (cf tt S) (cf_nn tt S) h.all e.toNat (by rw [h.len]; omega)
  have h3 : cf tt S e.toNat = 1 := by
    unfold cf
    rw [Int.toNat_of_nonneg he0, if_pos ⟨h1, h2⟩]
  rw [h3, Int.one_mul] at h_
  exact h_
def S0 (b : Int) : Bool := decide (b = 0)
theorem dead_path {E : List (List Int)} {tt left V next : List Int} {I : List Bool} (hNet : Net E tt) (hL : Lft tt left) (hV : Lev E tt left I V) (hd : Dead E tt left V next) (h0 : Ex E next 0) :
    ∀ (m : Nat) (b : Int), inb b E → rdB I b = true → rd V b ≤ (m : Int) → Ex E next b := by
  intro m
  induction m with
  | zero =>
    intro b hb hI hm
    by_cases hb0 : b = 0
    · rw [hb0]; exact h0
    · obtain ⟨p, e, h1, h2, h3, h4, h5, h6⟩ := hV.pred b hb hI hb0
      have := (hV.v p h1).1
      omega
  | succ m ih =>
    intro b hb hI hm
    by_cases hb0 : b = 0
    · rw [hb0]; exact h0
    · obtain ⟨p, e, h1, h2, h3, h4, h5, h6⟩ := hV.pred b hb hI hb0
      have hp := ih p h1 h2 (by omega)
      obtain ⟨j, hj, hje⟩ := mem_rd h3
      have := hd p h1 j hj.1 (by have := hp.2; have := hj.2; omega) hj.2
      rw [hje] at this
      rcases this with h7 | h7 | h7
      · omega
      · rw [h5] at h7; exact absurd h6 h7
      · rw [h5] at h7; exact h7
theorem phase_ok {E : List (List Int)} {tt V : List Int} {I : List Bool} (hNet : Net E tt) (hV : LV E I V) (hI0 : rdB I 0 = true) (M : Nat) (hM : ∀ a, (rowAt E a).length ≤ M) : ∀ (t k : Nat) (sum : Int) (left next : List Int),
    (cutw tt S0 left).toNat ≤ t → 1001 * (M + 3) + 1 + t + 1 < k → Lft tt left → Nx E next → 0 ≤ sum → sum + cutw tt S0 left ≤ 4611686018427387904 →
    ∃ s' left' next', phase E tt V 1152921504606846976 k sum left next = some (s', left', next') ∧ phase E tt (sp I V) 1125899906842624 k sum left next = some (s', left', next') ∧ sum ≤ s' ∧ Lft tt left' ∧
      (∀ S : Int → Bool, S 0 = true → S ((E.length : Int) - 1) = false → cutw tt S left' = cutw tt S left - (s' - sum)) ∧ (Dead E tt left V next → Lev E tt left I V → rdB I ((E.length : Int) - 1) = true → sum < s') := by
  have hn2 := hNet.n2
  have h0E : inb (0 : Int) E := ⟨Int.le_refl _, by omega⟩
  have hS0 : S0 0 = true := rfl
  have hS1 : S0 ((E.length : Int) - 1) = false := by unfold S0; exact decide_eq_false (by omega)
  have hv0 := hV.v 0 h0E
  intro t
  induction t with
  | zero =>
    intro k sum left next ht hk hL hN hs hb
    obtain ⟨k, rfl⟩ : ∃ m, k = m + 1 := ⟨k - 1, by omega⟩
    obtain ⟨r, left', next', e1, e2, e3⟩ := push_ok hNet hV M hM 1001 0 h0E hI0 (by omega) k 1152921504606846976 left next (by omega) (by omega) hL hN
    have e3 := e3 1125899906842624 (.inr ⟨by omega, by omega, by omega⟩)
    have hc := e2.c S0 hS1
    rw [if_pos hS0] at hc
    have hnn := cutw_nn e2.L S0
    have hnn' := cutw_nn hL S0
    have hr0 := e2.r0
    have hr : r = 0 := by omega
    obtain ⟨z1, z2, z3, z4⟩ := e2.z hr
    refine ⟨sum, left', next', ?_, ?_, Int.le_refl _, e2.L, fun S hS0 hS1 => by rw [z1]; omega, fun hd hV' hI => ?_⟩
    · rw [phase, e1, Option.bind_some, if_pos hr]
    · rw [phase, e3, Option.bind_some, if_pos hr]
    · obtain ⟨d1, d2⟩ := z4 hd
      have hlI : inb ((E.length : Int) - 1) E := ⟨by omega, by omega⟩
      have := dead_path hNet hL hV' d1 d2 1000 _ hlI hI (hV.v _ hlI).2.1
      exact absurd rfl this.1
  | succ t ih =>
    intro k sum left next ht hk hL hN hs hb
    obtain ⟨k, rfl⟩ : ∃ m, k = m + 1 := ⟨k - 1, by omega⟩
    obtain ⟨r, left', next', e1, e2, e3⟩ := push_ok hNet hV M hM 1001 0 h0E hI0 (by omega) k 1152921504606846976 left next (by omega) (by omega) hL hN
    have e3 := e3 1125899906842624 (.inr ⟨by omega, by omega, by omega⟩)
    have hc := e2.c S0 hS1
    rw [if_pos hS0] at hc
    have hnn := cutw_nn e2.L S0
    have hnn' := cutw_nn hL S0
    have hr0 := e2.r0
    by_cases hr : r = 0
    · obtain ⟨z1, z2, z3, z4⟩ := e2.z hr
      refine ⟨sum, left', next', ?_, ?_, Int.le_refl _, e2.L, fun S hS0 hS1 => by rw [z1]; omega, fun hd hV' hI => ?_⟩
      · rw [phase, e1, Option.bind_some, if_pos hr]
      · rw [phase, e3, Option.bind_some, if_pos hr]
      · obtain ⟨d1, d2⟩ := z4 hd
        have hlI : inb ((E.length : Int) - 1) E := ⟨by omega, by omega⟩
        have := dead_path hNet hL hV' d1 d2 1000 _ hlI hI (hV.v _ hlI).2.1
        exact absurd rfl this.1
    · have hw : wrap64 (sum + r) = sum + r := wrap_id (by omega) (by omega)
      obtain ⟨s', left2, next2, f1, f2, f3, f4, f5, f6⟩ := ih k (sum + r) left' next' (by omega) (by omega) e2.L e2.N (by omega) (by omega)
      refine ⟨s', left2, next2, ?_, ?_, by omega, f4, fun S hS0 hS1 => ?_, fun _ _ _ => by omega⟩
      · rw [phase, e1, Option.bind_some, if_neg hr, hw]
        exact f1
      · rw [phase, e3, Option.bind_some, if_neg hr, hw]
        exact f2
      · rw [f5 S hS0 hS1, e2.c S hS1, if_pos hS0]
        omega
theorem run_ok {E : List (List Int)} {tt : List Int} (hNet : Net E tt) (M : Nat) (hM : ∀ a, (rowAt E a).length ≤ M) : ∀ (t k : Nat) (sum : Int) (left : List Int),
    (cutw tt S0 left).toNat ≤ t → 1001 * (M + 3) + t + 10 < k → Lft tt left → 0 ≤ sum → sum + cutw tt S0 left ≤ 4611686018427387904 →
    ∃ s' left' I V, runI E tt k sum left = some (s', left') ∧ runS E tt k sum left = some (s', left') ∧ Lft tt left' ∧
      (∀ S : Int → Bool, S 0 = true → S ((E.length : Int) - 1) = false → cutw tt S left' = cutw tt S left - (s' - sum)) ∧
      Lev E tt left' I V ∧ rdB I ((E.length : Int) - 1) = false ∧ (∃ k, fs k E tt left' = some (I, V)) ∧ (∃ k, lv k E tt left' = some (sp I V)) := by
  have hn2 := hNet.n2
  have hnM := hNet.nM
  have h0E : inb (0 : Int) E := ⟨Int.le_refl _, by omega⟩
  have hlE : inb ((E.length : Int) - 1) E := ⟨by omega, by omega⟩
  have hsink : wrap64 ((E.length : Int) - 1) = (E.length : Int) - 1 := wrap_id (by omega) (by omega)
  have hS0 : S0 0 = true := rfl
  have hS1 : S0 ((E.length : Int) - 1) = false := by unfold S0; exact decide_eq_false (by omega)
  intro t
  induction t with
  | zero =>
    intro k sum left ht hk hL hs hb
    obtain ⟨k, rfl⟩ : ∃ m, k = m + 1 := ⟨k - 1, by omega⟩
    obtain ⟨I, V, h1, h2, h3⟩ := fs_ok hNet hL.len k (by omega)
    have hIl : inb ((E.length : Int) - 1) I := ⟨hlE.1, by rw [h3.lI]; exact hlE.2⟩
    have hVl : inb ((E.length : Int) - 1) V := ⟨hlE.1, by rw [h3.lV]; exact hlE.2⟩
    have hIV : I.length = V.length := by rw [h3.lI, h3.lV]
    have hSl : inb ((E.length : Int) - 1) (sp I V) := ⟨hlE.1, by rw [sp_len hIV, h3.lV]; exact hlE.2⟩
    by_cases hm : rdB I ((E.length : Int) - 1) = true
    · obtain ⟨s', left', next', f1, f2, f3, f4, f5, f6⟩ := phase_ok hNet h3.lv h3.i0 M hM 0 k sum left (List.replicate E.length 0) ht (by omega) hL ⟨by simp, fun a ha => by rw [rd_rep _ _ _ ha.1 ha.2]; omega⟩ hs hb
      have := f6 (fun b hb j hj0 hj1 => by rw [rd_rep _ _ _ hb.1 hb.2] at hj1; omega) h3 hm
      have h4 := f5 S0 hS0 hS1
      have h5 := cutw_nn f4 S0
      have h6 := cutw_nn hL S0
      omega
    · refine ⟨sum, left, I, V, ?_, ?_, hL, fun S _ _ => by omega, h3, by simpa using hm, ⟨k, h1⟩, ⟨k, h2⟩⟩
      · rw [runI, h1, Option.bind_some, hsink, if_pos hIl, if_neg hm]
      · rw [runS, h2, Option.bind_some, hsink, if_pos hSl, sp_rd hIV _ hVl, if_neg hm, if_pos (by omega)]
  | succ t ih =>
    intro k sum left ht hk hL hs hb
    obtain ⟨k, rfl⟩ : ∃ m, k = m + 1 := ⟨k - 1, by omega⟩
    obtain ⟨I, V, h1, h2, h3⟩ := fs_ok hNet hL.len k (by omega)
    have hIl : inb ((E.length : Int) - 1) I := ⟨hlE.1, by rw [h3.lI]; exact hlE.2⟩
    have hVl : inb ((E.length : Int) - 1) V := ⟨hlE.1, by rw [h3.lV]; exact hlE.2⟩
    have hIV : I.length = V.length := by rw [h3.lI, h3.lV]
    have hSl : inb ((E.length : Int) - 1) (sp I V) := ⟨hlE.1, by rw [sp_len hIV, h3.lV]; exact hlE.2⟩
    by_cases hm : rdB I ((E.length : Int) - 1) = true
    · obtain ⟨s', left', next', f1, f2, f3, f4, f5, f6⟩ := phase_ok hNet h3.lv h3.i0 M hM (t + 1) k sum left (List.replicate E.length 0) ht (by omega) hL ⟨by simp, fun a ha => by rw [rd_rep _ _ _ ha.1 ha.2]; omega⟩ hs hb
      have hlt := f6 (fun b hb j hj0 hj1 => by rw [rd_rep _ _ _ hb.1 hb.2] at hj1; omega) h3 hm
      have h4 := f5 S0 hS0 hS1
      have h5 := cutw_nn f4 S0
      have h6 := cutw_nn hL S0
      obtain ⟨s2, left2, I2, V2, g1, g2, g3, g4, g5, g6, g7, g8⟩ := ih k s' left' (by omega) (by omega) f4 (by omega) (by omega)
      refine ⟨s2, left2, I2, V2, ?_, ?_, g3, fun S hS0 hS1 => by rw [g4 S hS0 hS1, f5 S hS0 hS1]; omega, g5, g6, g7, g8⟩
      · rw [runI, h1, Option.bind_some, hsink, if_pos hIl, if_pos hm, f1, Option.bind_some]
        exact g1
      · rw [runS, h2, Option.bind_some, hsink, if_pos hSl, sp_rd hIV _ hVl, if_pos hm, if_neg (by have := (h3.v _ hlE).1; omega), f2, Option.bind_some]
        exact g2
    · refine ⟨sum, left, I, V, ?_, ?_, hL, fun S _ _ => by omega, h3, by simpa using hm, ⟨k, h1⟩, ⟨k, h2⟩⟩
      · rw [runI, h1, Option.bind_some, hsink, if_pos hIl, if_neg hm]
      · rw [runS, h2, Option.bind_some, hsink, if_pos hSl, sp_rd hIV _ hVl, if_neg hm, if_pos (by omega)]
theorem flow_ok {E : List (List Int)} {tt left : List Int} (hNet : Net E tt) (hL : Lft tt left) (hb : cutw tt S0 left ≤ 4611686018427387904) :
    ∃ s left' I V, (∃ k, runI E tt k 0 left = some (s, left')) ∧ (∃ k, runS E tt k 0 left = some (s, left')) ∧ (∃ k, fs k E tt left' = some (I, V)) ∧ (∃ k, lv k E tt left' = some (sp I V)) ∧
      I.length = E.length ∧ V.length = E.length ∧ (∀ b, inb b E → 0 ≤ rd V b) ∧ rdB I 0 = true ∧ rdB I ((E.length : Int) - 1) = false ∧ cutw tt (rdB I) left = s ∧
      ∀ S : Int → Bool, S 0 = true → S ((E.length : Int) - 1) = false → s ≤ cutw tt S left ∧ (cutw tt S left = s → ∀ b, inb b E → rdB I b = true → S b = true) := by
  obtain ⟨M, hM⟩ : ∃ M, ∀ a, (rowAt E a).length ≤ M := ⟨2000000, hNet.rl⟩
  obtain ⟨s, left', I, V, h1, h2, h3, h4, h5, h6, h7, h8⟩ := run_ok hNet M hM _ (1001 * (M + 3) + (cutw tt S0 left).toNat + 11) 0 left (Nat.le_refl _) (by omega) hL (Int.le_refl _) (by omega)
  have hn2 := hNet.n2
  refine ⟨s, left', I, V, ⟨_, h1⟩, ⟨_, h2⟩, h7, h8, h5.lI, h5.lV, fun b hb => (h5.v b hb).1, h5.i0, h6, ?_, fun S hS0 hS1 => ⟨?_, fun he => ?_⟩⟩
  · have hc := h4 (rdB I) h5.i0 h6
    have hz : cutw tt (rdB I) left' = 0 := by
      refine wsum_zero _ _ fun i hi => ?_
      unfold cf
      split
      · rename_i hc
        have hit : inb (i : Int) tt := ⟨by omega, by rw [← h3.len]; omega⟩
        have hil : inb (i : Int) left' := ⟨by omega, by omega⟩
        have hbk := back_inb hNet.ev hNet.tM hit
        have hnp : ¬ 0 < rd left' (i : Int) := fun hp => by
          have := h5.cl _ (hNet.tgt _ hbk.1) hc.1 (i : Int) (hNet.mem _ hit) hp
          rw [hc.2] at this
          cases this
        have hnn := h3.nn _ hil
        have hrd : left'.getD i 0 = rd left' (i : Int) := by rw [rd, Int.toNat_natCast]
        rw [hrd]
        omega
      · exact Int.zero_mul _
    omega
  · have := h4 S hS0 hS1
    have := cutw_nn h3 S
    omega
  · have hz : cutw tt S left' = 0 := by have := h4 S hS0 hS1; omega
    have key : ∀ (m : Nat) (b : Int), inb b E → rdB I b = true → rd V b ≤ (m : Int) → S b = true := by
      intro m
      induction m with
      | zero =>
        intro b hb hI hm
        by_cases hb0 : b = 0
        · rw [hb0]; exact hS0
        · obtain ⟨p, e, g1, g2, g3, g4, g5, g6⟩ := h5.pred b hb hI hb0
          have := (h5.v p g1).1
          omega
      | succ m ih =>
        intro b hb hI hm
        by_cases hb0 : b = 0
        · rw [hb0]; exact hS0
        · obtain ⟨p, e, g1, g2, g3, g4, g5, g6⟩ := h5.pred b hb hI hb0
          have hp := ih p g1 g2 (by omega)
          obtain ⟨k1, k2⟩ := hNet.row p g1 e g3
          cases hSb : S b with
          | true => rfl
          | false =>
            have := cutw_pos h3 S e k1 (by rw [k2]; exact hp) (by rw [g5]; exact hSb)
            omega
    intro b hb hI
    exact key 1000 b hb hI (h5.v b hb).2.1
end Go.Proofs.Ytclpjlaielphfaa.Flow
end
