/- Used by the claim's last text. -/
import Derived.Test.YtclpjlaielphfaaDoorRepPTx10
import Derived.Lib.ItoaNum
section
namespace Go.Proofs.YtclpjlaielphfaaDoor.Pure
open Go Go.RowKit Go.Proofs.YtclpjlaielphfaaDoorW.PrintWords Go.Proofs.YtclpjlaielphfaaDoorW.PrintLast Go.Proofs.YtclpjlaielphfaaDoorW.PrintMore Go.Proofs.YtclpjlaielphfaaDoor.PT
set_option linter.unusedVariables false
set_option linter.unusedSimpArgs false
theorem wrap_id {x : Int} (h0 : -9223372036854775808 ≤ x) (h1 : x < 9223372036854775808) : wrap64 x = x := by
  unfold wrap64; omega
theorem Ev_all (n : Nat) (g : Nat → Nat → Option Bool) (P : Nat → Prop) (e b : Bool) (hb : b = true ↔ (∀ j, j < n → P j) ∧ e = true) (hend : Ev (fun k => g k n) e)
    (hstep : ∀ i, i < n → (∀ j, j < i → P j) → (P i → ∀ r, Ev (fun k => g k (i + 1)) r → Ev (fun k => g k i) r) ∧ (¬ P i → Ev (fun k => g k i) false)) :
    Ev (fun k => g k 0) b := by
  have loop : ∀ (d i : Nat), i + d = n → (∀ j, j < i → P j) → Ev (fun k => g k i) b := by
    intro d
    induction d with
    | zero =>
      intro i hi hj
      obtain rfl : i = n := by omega
      have : b = e := by
        cases e with
        | true => exact hb.2 ⟨hj, rfl⟩
        | false =>
          cases b with
          | false => rfl
          | true => exact absurd (hb.1 rfl).2 (by decide)
      rw [this]
      exact hend
    | succ d ih =>
      intro i hi hj
      obtain ⟨h1, h2⟩ := hstep i (by omega) hj
      by_cases hp : P i
      · refine h1 hp _ (ih (i + 1) (by omega) (fun j h => ?_))
        by_cases hji : j = i
        · rw [hji]; exact hp
        · exact hj j (by omega)
      · have : b = false := by
          cases b with
          | false => rfl
          | true => exact absurd ((hb.1 rfl).1 i (by omega)) hp
        rw [this]
        exact h2 hp
  exact loop n 0 (by omega) (fun j h => by omega)
theorem l1In_ok (a b c : Int) : spec_l1In.f a b c = some (decide (b ≤ a ∧ a ≤ c)) := by
  rw [spec_l1In.f]
  by_cases h : a ≥ b
  · rw [if_pos h]
    congr 1
    by_cases h2 : a ≤ c
    · rw [decide_eq_true h2, decide_eq_true ⟨h, h2⟩]
    · rw [decide_eq_false h2, decide_eq_false (fun h_ => h2 h_.2)]
  · rw [if_neg h, decide_eq_false (fun h_ => h h_.1)]
def CharAt (s : ByteArray) (j : Nat) : Prop := (97 ≤ bt s (j : Int) ∧ bt s (j : Int) ≤ 122) ∨ (48 ≤ bt s (j : Int) ∧ bt s (j : Int) ≤ 57)
structure NameOk (s : ByteArray) : Prop where
  c : ∀ j, j < s.size → CharAt s j
  n : 1 ≤ (s.size : Int) ∧ (s.size : Int) ≤ 12
open Classical in
theorem rpName_ok (s : ByteArray) (hs : s.size ≤ 4611686018427387904) : Ev (fun k => spec_rpName.f k s) (decide (NameOk s)) := by
  have := Ev_all s.size (fun k i => spec_rpName.l0 k s (i : Int)) (CharAt s) (decide (1 ≤ (s.size : Int) ∧ (s.size : Int) ≤ 12)) (decide (NameOk s)) ⟨fun h => ⟨(of_decide_eq_true h).c, decide_eq_true (of_decide_eq_true h).n⟩, fun h => decide_eq_true ⟨h.1, of_decide_eq_true h.2⟩⟩
    (Ev.step (f := fun _ => some (decide (1 ≤ (s.size : Int) ∧ (s.size : Int) ≤ 12))) (fun k => by rw [spec_rpName.l0, if_neg (by omega), l1In_ok]; rfl) (Ev.now _)) (fun i hi_ hj => by
      have eq : ∀ k, spec_rpName.l0 (k + 1) s (i : Int) = if CharAt s i then spec_rpName.l0 k s ((i : Int) + 1) else some false := fun k => by
        rw [spec_rpName.l0, if_pos (by omega), if_pos (by omega), wrap_id (x := (i : Int) + 1) (by omega) (by omega)]
        unfold CharAt
        generalize bt s (i : Int) = c
        by_cases h1 : c < 97 <;> by_cases h2 : c > 122 <;> by_cases h3 : c < 48 <;> by_cases h4 : c > 57 <;> simp only [h1, h2, h3, h4, if_true, if_false] <;> first
          | (exfalso; omega)
          | rw [if_neg (by omega)]
          | rw [if_pos (by omega)]
      exact ⟨fun hp r hr => Ev.step (f := fun k => spec_rpName.l0 k s ((i : Int) + 1)) (fun k => by rw [eq, if_pos hp]) (by simpa using hr), fun hp => Ev.step (f := fun _ => some false) (fun k => by rw [eq, if_neg hp]) (Ev.now _)⟩)
  exact Ev.congr (fun k => by rw [spec_rpName.f]; rfl) this
open Classical in
theorem isName_ok (s : ByteArray) (hs : s.size ≤ 4611686018427387904) : Ev (fun k => impl_isName.f k s) (decide (NameOk s)) := by
  have := Ev_all s.size (fun k i => impl_isName.l0 k s (i : Int)) (CharAt s) (decide (1 ≤ (s.size : Int) ∧ (s.size : Int) ≤ 12)) (decide (NameOk s)) ⟨fun h => ⟨(of_decide_eq_true h).c, decide_eq_true (of_decide_eq_true h).n⟩, fun h => decide_eq_true ⟨h.1, of_decide_eq_true h.2⟩⟩
    (Ev.step (f := fun _ => some (decide (1 ≤ (s.size : Int) ∧ (s.size : Int) ≤ 12))) (fun k => by
      rw [impl_isName.l0, if_neg (by omega)]
      by_cases h1 : (s.size : Int) ≥ 1
      · rw [if_pos h1]; congr 1; exact decide_eq_decide.2 ⟨fun h => ⟨h1, h⟩, fun h => h.2⟩
      · rw [if_neg h1, decide_eq_false (fun h => h1 h.1)]) (Ev.now _)) (fun i hi_ hj => by
      have eq : ∀ k, impl_isName.l0 (k + 1) s (i : Int) = if CharAt s i then impl_isName.l0 k s ((i : Int) + 1) else some false := fun k => by
        rw [impl_isName.l0, if_pos (by omega), if_pos (by omega), wrap_id (x := (i : Int) + 1) (by omega) (by omega)]
        unfold CharAt
        generalize bt s (i : Int) = c
        by_cases h1 : c < 97 <;> by_cases h2 : c > 122 <;> by_cases h3 : c < 48 <;> by_cases h4 : c > 57 <;> simp only [h1, h2, h3, h4, if_true, if_false] <;> first
          | (exfalso; omega)
          | rw [if_neg (by omega)]
          | rw [if_pos (by omega)]
      exact ⟨fun hp r hr => Ev.step (f := fun k => impl_isName.l0 k s ((i : Int) + 1)) (fun k => by rw [eq, if_pos hp]) (by simpa using hr), fun hp => Ev.step (f := fun _ => some false) (fun k => by rw [eq, if_neg hp]) (Ev.now _)⟩)
  exact Ev.congr (fun k => by rw [impl_isName.f]; rfl) this
def Same (a b : ByteArray) : Prop := a.toList = b.toList
theorem T43_get (l : List S43) (i : Nat) (h : i < l.length) : rd_T43 l (i : Int) = l[i] := by
  rw [rd_T43, Int.toNat_natCast, List.getD_eq_getElem?_getD, List.getElem?_eq_getElem h, Option.getD_some]
theorem rpRow_ok (t : ByteArray) (n : Int) (l : List S43) (s : ByteArray) (hl : l.length ≤ 4611686018427387904) :
    (Ev (fun k => spec_rpRow.f k t n l s) (-1) ∧ ∀ j, j < l.length → ¬ Same (rd_T43 l (j : Int)).f0 s) ∨ ∃ j, j < l.length ∧ Ev (fun k => spec_rpRow.f k t n l s) (j : Int) ∧ Same (rd_T43 l (j : Int)).f0 s ∧ ∀ m, m < j → ¬ Same (rd_T43 l (m : Int)).f0 s := by
  have loop : ∀ (d i : Nat), i + d = l.length → (∀ m, m < i → ¬ Same (rd_T43 l (m : Int)).f0 s) →
      (Ev (fun k => spec_rpRow.l0 k s l (l.length : Int) (i : Int)) (-1) ∧ ∀ j, j < l.length → ¬ Same (rd_T43 l (j : Int)).f0 s) ∨ ∃ j, j < l.length ∧ Ev (fun k => spec_rpRow.l0 k s l (l.length : Int) (i : Int)) (j : Int) ∧ Same (rd_T43 l (j : Int)).f0 s ∧ ∀ m, m < j → ¬ Same (rd_T43 l (m : Int)).f0 s := by
    intro d
    induction d with
    | zero =>
      intro i h1 h2
      left
      exact ⟨Ev.step (f := fun _ => some (-1)) (fun k => by rw [spec_rpRow.l0, if_neg (by omega)]) (Ev.now _), fun j hj => h2 j (by omega)⟩
    | succ d ih =>
      intro i h1 h2
      have hi1 : (i : Int) + 1 = ((i + 1 : Nat) : Int) := by omega
      by_cases hs : (rd_T43 l (i : Int)).f0.toList = s.toList
      · right
        exact ⟨i, by omega, Ev.step (f := fun _ => some (i : Int)) (fun k => by rw [spec_rpRow.l0, if_pos (by omega), if_pos (by omega), if_pos (by omega), if_pos hs]) (Ev.now _), hs, h2⟩
      · have eq : ∀ k, spec_rpRow.l0 (k + 1) s l (l.length : Int) (i : Int) = spec_rpRow.l0 k s l (l.length : Int) ((i + 1 : Nat) : Int) := fun k => by
          rw [spec_rpRow.l0, if_pos (by omega), if_pos (by omega), if_pos (by omega), if_neg hs, wrap_id (x := (i : Int) + 1) (by omega) (by omega), hi1]
        rcases ih (i + 1) (by omega) (fun m hm => by
          by_cases hmi : m = i
          · rw [hmi]; exact hs
          · exact h2 m (by omega)) with ⟨a, b⟩ | ⟨j, a, b, c⟩
        · exact .inl ⟨Ev.step eq a, b⟩
        · exact .inr ⟨j, a, Ev.step eq b, c⟩
  rcases loop l.length 0 (by omega) (fun m hm => by omega) with ⟨a, b⟩ | ⟨j, a, b, c⟩
  · exact .inl ⟨Ev.congr (fun k => by rw [spec_rpRow.f]; rfl) a, b⟩
  · exact .inr ⟨j, a, Ev.congr (fun k => by rw [spec_rpRow.f]; rfl) b, c⟩
theorem rowNamed_ok (l : List S43) (s : ByteArray) (hl : l.length ≤ 4611686018427387904) :
    (Ev (fun k => impl_rowNamed.f k l s) (-1) ∧ ∀ j, j < l.length → ¬ Same (rd_T43 l (j : Int)).f0 s) ∨ ∃ j, j < l.length ∧ Ev (fun k => impl_rowNamed.f k l s) (j : Int) ∧ Same (rd_T43 l (j : Int)).f0 s := by
  have loop : ∀ (d i : Nat), i + d = l.length → (∀ m, m < i → ¬ Same (rd_T43 l (m : Int)).f0 s) →
      (Ev (fun k => impl_rowNamed.l0 k s l (l.length : Int) (i : Int)) (-1) ∧ ∀ j, j < l.length → ¬ Same (rd_T43 l (j : Int)).f0 s) ∨ ∃ j, j < l.length ∧ Ev (fun k => impl_rowNamed.l0 k s l (l.length : Int) (i : Int)) (j : Int) ∧ Same (rd_T43 l (j : Int)).f0 s := by
    intro d
    induction d with
    | zero =>
      intro i h1 h2
      left
      exact ⟨Ev.step (f := fun _ => some (-1)) (fun k => by rw [impl_rowNamed.l0, if_neg (by omega)]) (Ev.now _), fun j hj => h2 j (by omega)⟩
    | succ d ih =>
      intro i h1 h2
      have hi1 : (i : Int) + 1 = ((i + 1 : Nat) : Int) := by omega
      by_cases hs : (rd_T43 l (i : Int)).f0.toList = s.toList
      · right
        exact ⟨i, by omega, Ev.step (f := fun _ => some (i : Int)) (fun k => by rw [impl_rowNamed.l0, if_pos (by omega), if_pos (by omega), if_pos (by omega), if_pos hs]) (Ev.now _), hs⟩
      · have eq : ∀ k, impl_rowNamed.l0 (k + 1) s l (l.length : Int) (i : Int) = impl_rowNamed.l0 k s l (l.length : Int) ((i + 1 : Nat) : Int) := fun k => by
          rw [impl_rowNamed.l0, if_pos (by omega), if_pos (by omega), if_pos (by omega), if_neg hs, wrap_id (x := (i : Int) + 1) (by omega) (by omega), hi1]
        rcases ih (i + 1) (by omega) (fun m hm => by
          by_cases hmi : m = i
          · rw [hmi]; exact hs
          · exact h2 m (by omega)) with ⟨a, b⟩ | ⟨j, a, b, c⟩
        · exact .inl ⟨Ev.step eq a, b⟩
        · exact .inr ⟨j, a, Ev.step eq b, c⟩
  rcases loop l.length 0 (by omega) (fun m hm => by omega) with ⟨a, b⟩ | ⟨j, a, b, c⟩
  · exact .inl ⟨Ev.congr (fun k => by rw [impl_rowNamed.f]; rfl) a, b⟩
  · exact .inr ⟨j, a, Ev.congr (fun k => by rw [impl_rowNamed.f]; rfl) b, c⟩
structure InRange (v : List Int) : Prop where
  r : ∀ j, j < v.length → -1000000000 ≤ rd v (j : Int) ∧ rd v (j : Int) ≤ 1000000000
open Classical in
theorem l1All_ok (v : List Int) (hl : v.length ≤ 4611686018427387904) : Ev (fun k => spec_l1All.f k v (-1000000000) 1000000000) (decide (InRange v)) := by
  have := Ev_all v.length (fun k i => spec_l1All.l0 k (-1000000000) 1000000000 v (v.length : Int) (i : Int)) (fun j => -1000000000 ≤ rd v (j : Int) ∧ rd v (j : Int) ≤ 1000000000) true (decide (InRange v)) ⟨fun h => ⟨(of_decide_eq_true h).r, rfl⟩, fun h => decide_eq_true ⟨h.1⟩⟩
    (Ev.step (f := fun _ => some true) (fun k => by rw [spec_l1All.l0, if_neg (by omega)]) (Ev.now _)) (fun i hi_ hj => by
      have eq : ∀ k, spec_l1All.l0 (k + 1) (-1000000000) 1000000000 v (v.length : Int) (i : Int) = if -1000000000 ≤ rd v (i : Int) ∧ rd v (i : Int) ≤ 1000000000 then spec_l1All.l0 k (-1000000000) 1000000000 v (v.length : Int) ((i : Int) + 1) else some false := fun k => by
        rw [spec_l1All.l0, if_pos (by omega), if_pos (by omega), if_pos (by omega), l1In_ok, Option.bind_some, wrap_id (x := (i : Int) + 1) (by omega) (by omega)]
        by_cases h1 : -1000000000 ≤ rd v (i : Int) ∧ rd v (i : Int) ≤ 1000000000
        · rw [decide_eq_true h1, if_pos rfl, if_pos h1]
        · rw [decide_eq_false h1, if_neg (by decide), if_neg h1]
      exact ⟨fun hp r hr => Ev.step (f := fun k => spec_l1All.l0 k (-1000000000) 1000000000 v (v.length : Int) ((i : Int) + 1)) (fun k => by rw [eq, if_pos hp]) (by simpa using hr), fun hp => Ev.step (f := fun _ => some false) (fun k => by rw [eq, if_neg hp]) (Ev.now _)⟩)
  exact Ev.congr (fun k => by rw [spec_l1All.f]; rfl) this
structure RowOk (n : Int) (l : List S43) (i : Nat) : Prop where
  name : NameOk (rd_T43 l (i : Int)).f0
  one : ∀ j, j < i → ¬ Same (rd_T43 l (j : Int)).f0 (rd_T43 l (i : Int)).f0
  len : ((rd_T43 l (i : Int)).f1.length : Int) = n
  rng : InRange (rd_T43 l (i : Int)).f1
structure Good (t : ByteArray) (n : Int) (l : List S43) : Prop where
  rows : ∀ i, i < l.length → RowOk n l i
  title : NameOk t
  wide : 1 ≤ n ∧ n ≤ 8
  few : (l.length : Int) ≤ 40
section
variable (t : ByteArray) (n : Int) (l : List S43) (ht : t.size ≤ 4611686018427387904) (hl : l.length ≤ 4611686018427387904) (hn : ∀ x, x ∈ l → x.f0.size ≤ 4611686018427387904 ∧ x.f1.length ≤ 4611686018427387904)
theorem T43_mem {l : List S43} {i : Nat} (h : i < l.length) : rd_T43 l (i : Int) ∈ l := by
  rw [T43_get l i h]; exact List.getElem_mem _
include ht hl hn
open Classical in
theorem rpGood_ok : Ev (fun k => spec_rpGood.f k t n l) (decide (Good t n l)) := by
  have he : Ev (fun k => (spec_rpName.f k t).bind fun t114 => if t114 = true then (spec_l1In.f n 1 8).bind fun t115 => (if t115 = true then some (decide ((l.length : Int) ≤ 40)) else some false) else some false) (decide (NameOk t ∧ (1 ≤ n ∧ n ≤ 8) ∧ (l.length : Int) ≤ 40)) := by
    have h1 := rpName_ok t ht
    by_cases h : NameOk t
    · rw [decide_eq_true h] at h1
      refine Ev.bind h1 ?_
      simp only [if_true, l1In_ok, Option.bind_some]
      by_cases hw : 1 ≤ n ∧ n ≤ 8
      · refine Ev.congr (f := fun _ => some (decide ((l.length : Int) ≤ 40))) (fun k => by rw [decide_eq_true hw, if_pos rfl]) ?_
        rw [show decide (NameOk t ∧ (1 ≤ n ∧ n ≤ 8) ∧ (l.length : Int) ≤ 40) = decide ((l.length : Int) ≤ 40) from decide_eq_decide.2 ⟨fun h_ => h_.2.2, fun h_ => ⟨h, hw, h_⟩⟩]
        exact Ev.now _
      · rw [show decide (NameOk t ∧ (1 ≤ n ∧ n ≤ 8) ∧ (l.length : Int) ≤ 40) = false from decide_eq_false (fun h_ => hw h_.2.1)]
        exact Ev.congr (fun k => by rw [decide_eq_false hw, if_neg (by decide)]) (Ev.now _)
    · rw [decide_eq_false h] at h1
      rw [show decide (NameOk t ∧ (1 ≤ n ∧ n ≤ 8) ∧ (l.length : Int) ≤ 40) = false from decide_eq_false (fun h_ => h h_.1)]
      refine Ev.bind h1 ?_
      exact Ev.congr (fun k => if_neg (by decide)) (Ev.now _)
  have := Ev_all l.length (fun k i => spec_rpGood.l0 k l (l.length : Int) (i : Int) t n l) (RowOk n l) (decide (NameOk t ∧ (1 ≤ n ∧ n ≤ 8) ∧ (l.length : Int) ≤ 40)) (decide (Good t n l))
    ⟨fun h => have h := of_decide_eq_true h; ⟨h.rows, decide_eq_true ⟨h.title, h.wide, h.few⟩⟩, fun h => have h2 := of_decide_eq_true h.2; decide_eq_true ⟨h.1, h2.1, h2.2.1, h2.2.2⟩⟩
    (Ev.step (fun k => by rw [spec_rpGood.l0, if_neg (by omega)]) he) (fun i hi_ hj => by
      have hm := hn _ (T43_mem hi_)
      have eq : ∀ k, spec_rpGood.l0 (k + 1) l (l.length : Int) (i : Int) t n l = (spec_rpName.f k ((rd_T43 l (i : Int)).f0)).bind fun t118 => (if t118 = true then ((spec_rpRow.f k t n l ((rd_T43 l (i : Int)).f0)).bind fun t119 => (if t119 = (i : Int) then (if (((rd_T43 l (i : Int)).f1).length : Int) = n then ((spec_l1All.f k ((rd_T43 l (i : Int)).f1) (-1000000000) 1000000000).bind fun t120 => (if t120 = true then (spec_rpGood.l0 k l (l.length : Int) ((i : Int) + 1) t n l) else (some false))) else (some false)) else (some false))) else (some false)) := fun k => by
        rw [spec_rpGood.l0, if_pos (by omega), if_pos (by omega), if_pos (by omega), wrap_id (x := (i : Int) + 1) (by omega) (by omega)]
      have h1 := rpName_ok _ hm.1
      have h3 := l1All_ok _ hm.2
      have h2 := rpRow_ok t n l (rd_T43 l (i : Int)).f0 hl
      refine ⟨fun hp r hr => Ev.step eq ?_, fun hp => Ev.step eq ?_⟩
      · rw [decide_eq_true hp.name] at h1
        rw [decide_eq_true hp.rng] at h3
        refine Ev.bind h1 ?_
        simp only [if_true]
        rcases h2 with ⟨_, b⟩ | ⟨j, a, b, c, d⟩
        · exact absurd rfl (b i hi_)
        · have hji : j = i := by
            rcases Nat.lt_trichotomy j i with h | h | h
            · exact absurd c (hp.one j h)
            · exact h
            · exact absurd rfl (d i h)
          subst hji
          refine Ev.bind b ?_
          simp only [if_true, hp.len]
          refine Ev.bind h3 ?_
          simp only [if_true]
          simpa using hr
      · by_cases q1 : NameOk (rd_T43 l (i : Int)).f0
        · rw [decide_eq_true q1] at h1
          refine Ev.bind h1 ?_
          simp only [if_true]
          rcases h2 with ⟨_, b⟩ | ⟨j, a, b, c, d⟩
          · exact absurd rfl (b i hi_)
          · refine Ev.bind b ?_
            by_cases hji : j = i
            · subst hji
              simp only [if_true]
              by_cases q3 : (((rd_T43 l (j : Int)).f1).length : Int) = n
              · simp only [if_pos q3]
                have q4 : ¬ InRange (rd_T43 l (j : Int)).f1 := fun h_ => hp ⟨q1, d, q3, h_⟩
                rw [decide_eq_false q4] at h3
                refine Ev.bind h3 ?_
                exact Ev.congr (fun k => if_neg (by decide)) (Ev.now _)
              · simp only [if_neg q3]
                exact Ev.now _
            · exact Ev.congr (fun k => if_neg (by omega)) (Ev.now _)
        · rw [decide_eq_false q1] at h1
          refine Ev.bind h1 ?_
          exact Ev.congr (fun k => if_neg (by decide)) (Ev.now _))
  exact Ev.congr (fun k => by rw [spec_rpGood.f]; rfl) this
open Classical in
theorem IsReport_ok : Ev (fun k => impl_IsReport.f k t n l) (decide (Good t n l)) := by
  have h1 := isName_ok t ht
  have no : Ev (fun k => impl_IsReport.j0 k true t n l) false := Ev.step (f := fun _ => some false) (fun k => by rw [impl_IsReport.j0, if_pos rfl]) (Ev.now _)
  by_cases h : NameOk t
  · rw [decide_eq_true h] at h1
    refine Ev.congr (fun k => by rw [impl_IsReport.f]) (Ev.bind h1 ?_)
    simp only [if_true]
    by_cases hw : n < 1
    · simp only [if_pos hw]
      rw [decide_eq_false (fun h_ => by have := h_.wide; omega)]
      exact no
    · simp only [if_neg hw]
      by_cases hw2 : n > 8
      · simp only [if_pos hw2]
        rw [decide_eq_false (fun h_ => by have := h_.wide; omega)]
        exact no
      · simp only [if_neg hw2]
        by_cases hf : (l.length : Int) > 40
        · simp only [decide_eq_true hf]
          rw [decide_eq_false (fun h_ => by have := h_.few; omega)]
          exact no
        · simp only [decide_eq_false hf]
          refine Ev.step (fun k => by rw [impl_IsReport.j0, if_neg (by decide)]) ?_
          refine Ev_all l.length (fun k i => impl_IsReport.l0 k l (l.length : Int) (i : Int) t n l) (RowOk n l) true (decide (Good t n l)) ⟨fun h => ⟨(of_decide_eq_true h).rows, rfl⟩, fun h_ => decide_eq_true ⟨h_.1, h, by omega, by omega⟩⟩
            (Ev.step (f := fun _ => some true) (fun k => by rw [impl_IsReport.l0, if_neg (by omega)]) (Ev.now _)) (fun i hi_ hj => ?_)
          have hm := hn _ (T43_mem hi_)
          have eq : ∀ k, impl_IsReport.l0 (k + 1) l (l.length : Int) (i : Int) t n l = (impl_isName.f k ((rd_T43 l (i : Int)).f0)).bind fun t171 => (if t171 = true then (if (((rd_T43 l (i : Int)).f1).length : Int) = n then ((impl_rowNamed.f k (l.take i) ((rd_T43 l (i : Int)).f0)).bind fun t176 => (impl_IsReport.j2 k l (l.length : Int) (i : Int) (decide (t176 ≥ 0)) t n l ((rd_T43 l (i : Int)).f0) ((rd_T43 l (i : Int)).f1))) else (impl_IsReport.j2 k l (l.length : Int) (i : Int) true t n l ((rd_T43 l (i : Int)).f0) ((rd_T43 l (i : Int)).f1))) else (impl_IsReport.j2 k l (l.length : Int) (i : Int) true t n l ((rd_T43 l (i : Int)).f0) ((rd_T43 l (i : Int)).f1))) := fun k => by
            rw [impl_IsReport.l0, if_pos (by omega), if_pos (by omega), if_pos (by omega), if_pos (show (i : Int) ≤ (l.length : Int) by omega), Int.toNat_natCast]
          have no2 : Ev (fun k => impl_IsReport.j2 k l (l.length : Int) (i : Int) true t n l ((rd_T43 l (i : Int)).f0) ((rd_T43 l (i : Int)).f1)) false := Ev.step (f := fun _ => some false) (fun k => by rw [impl_IsReport.j2, if_pos rfl]) (Ev.now _)
          have h2 := isName_ok _ hm.1
          have h3 := rowNamed_ok (l.take i) (rd_T43 l (i : Int)).f0 (by rw [List.length_take]; omega)
          have htk : ∀ j, j < i → rd_T43 (l.take i) (j : Int) = rd_T43 l (j : Int) := fun j hj => by
            rw [T43_get _ j (by rw [List.length_take]; omega), T43_get l j (by omega), List.getElem_take]
          have hlt : (l.take i).length = i := by rw [List.length_take]; omega
          have nums : ∀ (d j : Nat), j + d = (rd_T43 l (i : Int)).f1.length → ((∀ m, j ≤ m → m < (rd_T43 l (i : Int)).f1.length → -1000000000 ≤ rd (rd_T43 l (i : Int)).f1 (m : Int) ∧ rd (rd_T43 l (i : Int)).f1 (m : Int) ≤ 1000000000) → ∀ r, Ev (fun k => impl_IsReport.l0 k l (l.length : Int) ((i : Int) + 1) t n l) r → Ev (fun k => impl_IsReport.l1 k l (l.length : Int) (i : Int) (rd_T43 l (i : Int)).f1 ((rd_T43 l (i : Int)).f1.length : Int) (j : Int) t n l) r) ∧
              ((¬ ∀ m, j ≤ m → m < (rd_T43 l (i : Int)).f1.length → -1000000000 ≤ rd (rd_T43 l (i : Int)).f1 (m : Int) ∧ rd (rd_T43 l (i : Int)).f1 (m : Int) ≤ 1000000000) → Ev (fun k => impl_IsReport.l1 k l (l.length : Int) (i : Int) (rd_T43 l (i : Int)).f1 ((rd_T43 l (i : Int)).f1.length : Int) (j : Int) t n l) false) := by
            have hm2 := hm.2
            intro d
            induction d with
            | zero =>
              intro j hj2
              refine ⟨fun _ r hr => Ev.step (fun k => ?_) hr, fun hno => absurd (fun m h1 h2 => by omega) hno⟩
              rw [impl_IsReport.l1, if_neg (by omega), wrap_id (x := (i : Int) + 1) (by omega) (by omega)]
            | succ d ih =>
              intro j hj2
              obtain ⟨ih1, ih2⟩ := ih (j + 1) (by omega)
              have hj1 : (j : Int) + 1 = ((j + 1 : Nat) : Int) := by omega
              have eq2 : ∀ k, impl_IsReport.l1 (k + 1) l (l.length : Int) (i : Int) (rd_T43 l (i : Int)).f1 ((rd_T43 l (i : Int)).f1.length : Int) (j : Int) t n l = if -1000000000 ≤ rd (rd_T43 l (i : Int)).f1 (j : Int) ∧ rd (rd_T43 l (i : Int)).f1 (j : Int) ≤ 1000000000 then impl_IsReport.l1 k l (l.length : Int) (i : Int) (rd_T43 l (i : Int)).f1 ((rd_T43 l (i : Int)).f1.length : Int) ((j + 1 : Nat) : Int) t n l else some false := fun k => by
                rw [impl_IsReport.l1, if_pos (by omega), if_pos (by omega), if_pos (by omega), impl_isReported.f, wrap_id (x := (j : Int) + 1) (by omega) (by omega), hj1]
                by_cases p1 : rd (rd_T43 l (i : Int)).f1 (j : Int) ≥ -1000000000
                · rw [if_pos p1, Option.bind_some]
                  by_cases p2 : rd (rd_T43 l (i : Int)).f1 (j : Int) ≤ 1000000000
                  · rw [decide_eq_true p2, if_pos rfl, if_pos ⟨p1, p2⟩]
                  · rw [decide_eq_false p2, if_neg (by decide), if_neg (fun h_ => p2 h_.2)]
                · rw [if_neg p1, Option.bind_some, if_neg (by decide), if_neg (fun h_ => p1 h_.1)]
              constructor
              · intro hall r hr
                refine Ev.step (fun k => by rw [eq2, if_pos (hall j (Nat.le_refl _) (by omega))]) (ih1 (fun m h1 h2 => hall m (by omega) h2) r hr)
              · intro hno
                by_cases p : -1000000000 ≤ rd (rd_T43 l (i : Int)).f1 (j : Int) ∧ rd (rd_T43 l (i : Int)).f1 (j : Int) ≤ 1000000000
                · refine Ev.step (fun k => by rw [eq2, if_pos p]) (ih2 (fun hall => hno (fun m h1 h2 => ?_)))
                  by_cases hmj : m = j
                  · rw [hmj]; exact p
                  · exact hall m (by omega) h2
                · exact Ev.step (f := fun _ => some false) (fun k => by rw [eq2, if_neg p]) (Ev.now _)
          have numsAll := nums (rd_T43 l (i : Int)).f1.length 0 (by omega)
          refine ⟨fun hp r hr => Ev.step eq ?_, fun hp => Ev.step eq ?_⟩
          · rw [decide_eq_true hp.name] at h2
            refine Ev.bind h2 ?_
            simp only [if_true, hp.len]
            rcases h3 with ⟨a, b⟩ | ⟨j, a, b, c⟩
            · refine Ev.bind a ?_
              refine Ev.step (fun k => by rw [impl_IsReport.j2, if_neg (by decide)]) ?_
              have h_ := numsAll.1 (fun m _ h2 => hp.rng.r m h2) r (by simpa using hr)
              simpa [hp.len] using h_
            · rw [hlt] at a
              rw [htk j a] at c
              exact absurd c (hp.one j a)
          · by_cases q1 : NameOk (rd_T43 l (i : Int)).f0
            · rw [decide_eq_true q1] at h2
              refine Ev.bind h2 ?_
              simp only [if_true]
              by_cases q2 : (((rd_T43 l (i : Int)).f1).length : Int) = n
              · simp only [if_pos q2]
                rcases h3 with ⟨a, b⟩ | ⟨j, a, b, c⟩
                · refine Ev.bind a ?_
                  refine Ev.step (fun k => by rw [impl_IsReport.j2, if_neg (by decide)]) ?_
                  exact numsAll.2 (fun hall => hp ⟨q1, fun j hj2 => by have := b j (by omega); rwa [htk j hj2] at this, q2, ⟨fun m hm3 => hall m (Nat.zero_le _) hm3⟩⟩)
                · refine Ev.bind b ?_
                  refine Ev.congr (f := fun k => impl_IsReport.j2 k l (l.length : Int) (i : Int) true t n l ((rd_T43 l (i : Int)).f0) ((rd_T43 l (i : Int)).f1)) (fun k => by rw [decide_eq_true (show (j : Int) ≥ 0 by omega)]) no2
              · simp only [if_neg q2]
                exact no2
            · rw [decide_eq_false q1] at h2
              refine Ev.bind h2 ?_
              exact Ev.congr (fun k => if_neg (by decide)) no2
  · rw [decide_eq_false h] at h1
    rw [decide_eq_false (fun h_ => h h_.title)]
    refine Ev.congr (fun k => by rw [impl_IsReport.f]) (Ev.bind h1 ?_)
    exact Ev.congr (fun k => if_neg (by decide)) no
end
end Go.Proofs.YtclpjlaielphfaaDoor.Pure
end
