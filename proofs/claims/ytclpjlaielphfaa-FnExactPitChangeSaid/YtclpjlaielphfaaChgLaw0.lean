/- Used by the claim's last text. -/
import Derived.Test.YtclpjlaielphfaaChgFlowQ
import Derived.Test.YtclpjlaielphfaaChgMark
import Derived.Test.YtclpjlaielphfaaChgPFx15
section
namespace Go.Proofs.Ytclpjlaielphfaa.Pure
open Go Go.RowKit Go.Proofs.YtclpjlaielphfaaW.PrintWords Go.Proofs.YtclpjlaielphfaaW.PrintLast Go.Proofs.YtclpjlaielphfaaW.PrintMore Go.Proofs.Ytclpjlaielphfaa.PF Go.Proofs.Ytclpjlaielphfaa.Flow
set_option linter.unusedVariables false
set_option linter.unusedSimpArgs false
theorem Ev.unique {α : Type} {g : Nat → Option α} {a b : α} (h : Ev g a) (k : Ev g b) : a = b := by
  obtain ⟨K, hK⟩ := h
  obtain ⟨J, hJ⟩ := k
  have h1 := hK (max K J) (Nat.le_max_left _ _)
  have h2 := hJ (max K J) (Nat.le_max_right _ _)
  rw [h1] at h2
  exact Option.some.inj h2
theorem eqIntS_refl (l : List Int) (hl : l.length ≤ 4611686018427387904) : Ev (fun k => laws_eqIntS.f k l l) true := by
  have loop : ∀ (d : Nat) (i : Int), 0 ≤ i → i + d = (l.length : Int) → Ev (fun k => laws_eqIntS.l0 k l l i) true := by
    intro d
    induction d with
    | zero =>
      intro i h0 h1
      refine Ev.step (f := fun _ => some true) (fun k => ?_) (Ev.now _)
      rw [laws_eqIntS.l0, if_neg (by omega)]
    | succ d ih =>
      intro i h0 h1
      refine Ev.step (f := fun k => laws_eqIntS.l0 k l l (i + 1)) (fun k => ?_) (ih (i + 1) (by omega) (by omega))
      rw [laws_eqIntS.l0, if_pos (by omega), if_pos h0, if_pos (by omega), if_pos rfl, wrap_id (by omega) (by omega)]
  refine Ev.congr (f := fun k => laws_eqIntS.l0 k l l 0) (fun k => ?_) (loop l.length 0 (by omega) (by omega))
  rw [laws_eqIntS.f, if_pos rfl]
theorem eqIntSS_refl (l : List (List Int)) (hl : l.length ≤ 4611686018427387904) (hr : ∀ r, r ∈ l → r.length ≤ 4611686018427387904) : Ev (fun k => laws_eqIntSS.f k l l) true := by
  have loop : ∀ (d : Nat) (i : Int), 0 ≤ i → i + d = (l.length : Int) → Ev (fun k => laws_eqIntSS.l0 k l l i) true := by
    intro d
    induction d with
    | zero =>
      intro i h0 h1
      refine Ev.step (f := fun _ => some true) (fun k => ?_) (Ev.now _)
      rw [laws_eqIntSS.l0, if_neg (by omega)]
    | succ d ih =>
      intro i h0 h1
      have hm : rd_L1 l i ∈ l := by
        rw [rd_L1, List.getD_eq_getElem?_getD, List.getElem?_eq_getElem (by omega), Option.getD_some]
        exact List.getElem_mem _
      refine Ev.step (f := fun k => (laws_eqIntS.f k (rd_L1 l i) (rd_L1 l i)).bind fun t => if t = true then laws_eqIntSS.l0 k l l (i + 1) else some false) (fun k => ?_)
        (Ev.bind (f := fun k t => if t = true then laws_eqIntSS.l0 k l l (i + 1) else some false) (eqIntS_refl _ (hr _ hm)) (Ev.congr (fun k => if_pos rfl) (ih (i + 1) (by omega) (by omega))))
      rw [laws_eqIntSS.l0, if_pos (by omega), if_pos h0, if_pos (by omega), wrap_id (x := i + 1) (by omega) (by omega)]
  refine Ev.congr (f := fun k => laws_eqIntSS.l0 k l l 0) (fun k => ?_) (loop l.length 0 (by omega) (by omega))
  rw [laws_eqIntSS.f, if_pos rfl]
theorem take_set {α : Type} (l x : List α) (i : Nat) (v : α) (hi : i < x.length) (hv : l[i]? = some v) (h : x.take i = l.take i) : (x.set i v).take (i + 1) = l.take (i + 1) := by
  rw [List.take_add_one, List.take_add_one, List.take_set_of_le (Nat.le_refl _), h, hv, List.getElem?_set_self hi]
theorem toIntS_ok (l : List Int) (hl : l.length ≤ 35184372088832) : Ev (fun k => laws_toIntS.f k l) l := by
  have loop : ∀ (d : Nat) (i : Int) (x : List Int), 0 ≤ i → i + d = (l.length : Int) → x.length = l.length → x.take i.toNat = l.take i.toNat → Ev (fun k => laws_toIntS.l0 k l x i) l := by
    intro d
    induction d with
    | zero =>
      intro i x h0 h1 hx ht
      refine Ev.step (f := fun _ => some l) (fun k => ?_) (Ev.now _)
      rw [laws_toIntS.l0, if_neg (by omega)]
      rw [List.take_of_length_le (by omega), List.take_of_length_le (by omega)] at ht
      rw [ht]
    | succ d ih =>
      intro i x h0 h1 hx ht
      refine Ev.step (f := fun k => laws_toIntS.l0 k l (x.set i.toNat (rd l i)) (i + 1)) (fun k => ?_) (ih (i + 1) _ (by omega) (by omega) (by simp [hx]) ?_)
      · rw [laws_toIntS.l0, if_pos (by omega), if_pos h0, if_pos (by omega), wrap_id (by omega) (by omega)]
      · rw [show (i + 1).toNat = i.toNat + 1 by omega]
        refine take_set l x i.toNat _ (by omega) ?_ ht
        rw [rd, List.getD_eq_getElem?_getD, List.getElem?_eq_getElem (by omega), Option.getD_some]
  refine Ev.congr (f := fun k => laws_toIntS.l0 k l (List.replicate l.length 0) 0) (fun k => ?_) (loop l.length 0 _ (by omega) (by omega) (by simp) (by simp))
  rw [laws_toIntS.f, if_pos (by omega), if_pos (by simpa using hl)]
  simp
theorem toIntSS_ok (l : List (List Int)) (hl : l.length ≤ 11728124029610) (hr : ∀ r, r ∈ l → r.length ≤ 35184372088832) : Ev (fun k => laws_toIntSS.f k l) l := by
  have loop : ∀ (d : Nat) (i : Int) (x : List (List Int)), 0 ≤ i → i + d = (l.length : Int) → x.length = l.length → x.take i.toNat = l.take i.toNat → Ev (fun k => laws_toIntSS.l0 k l x i) l := by
    intro d
    induction d with
    | zero =>
      intro i x h0 h1 hx ht
      refine Ev.step (f := fun _ => some l) (fun k => ?_) (Ev.now _)
      rw [laws_toIntSS.l0, if_neg (by omega)]
      rw [List.take_of_length_le (by omega), List.take_of_length_le (by omega)] at ht
      rw [ht]
    | succ d ih =>
      intro i x h0 h1 hx ht
      have hg : l[i.toNat]? = some (rd_L1 l i) := by rw [rd_L1, List.getD_eq_getElem?_getD, List.getElem?_eq_getElem (by omega), Option.getD_some]
      have hm : rd_L1 l i ∈ l := List.mem_of_getElem? hg
      refine Ev.step (f := fun k => (laws_toIntS.f k (rd_L1 l i)).bind fun t => laws_toIntSS.l0 k l (x.set i.toNat t) (i + 1)) (fun k => ?_)
        (Ev.bind (f := fun k t => laws_toIntSS.l0 k l (x.set i.toNat t) (i + 1)) (toIntS_ok _ (hr _ hm)) (ih (i + 1) _ (by omega) (by omega) (by simp [hx]) ?_))
      · rw [laws_toIntSS.l0, if_pos (by omega), if_pos h0, wrap_id (x := i + 1) (by omega) (by omega)]
        congr 1
        funext t
        rw [if_pos (by omega)]
      · rw [show (i + 1).toNat = i.toNat + 1 by omega]
        exact take_set l x i.toNat _ (by omega) hg ht
  refine Ev.congr (f := fun k => laws_toIntSS.l0 k l (List.replicate l.length []) 0) (fun k => ?_) (loop l.length 0 _ (by omega) (by omega) (by simp) (by simp))
  rw [laws_toIntSS.f, if_pos (by omega), if_pos (by simpa using hl)]
  simp
def tot (l : List (List Int)) : Nat := (l.map List.length).sum
theorem szIntSS_ok (l : List (List Int)) (a : Int) (ha : 0 ≤ a) (ha2 : a ≤ 1048576) (hl : l.length ≤ maxLen) (hr : ∀ r, r ∈ l → r.length ≤ maxLen) :
    ∃ r, Ev (fun k => laws_szIntSS.f k l a) r ∧ r ≤ a ∧ (0 ≤ r → (l.length : Int) + (tot l : Int) ≤ 1048576) := by
  have hmx : maxLen = 9223372036854775807 := rfl
  have loop : ∀ (d : Nat) (i b : Int), 0 ≤ i → i + d = (l.length : Int) → 0 ≤ b → b ≤ 1048576 → (l.length : Int) ≤ 1048576 → b + (tot (l.take i.toNat) : Int) + (l.length : Int) ≤ a →
      ∃ r, Ev (fun k => laws_szIntSS.l0 k l b i) r ∧ r ≤ a ∧ (0 ≤ r → (l.length : Int) + (tot l : Int) ≤ a) := by
    intro d
    induction d with
    | zero =>
      intro i b h0 h1 hb hb2 hl2 ht
      refine ⟨b, Ev.step (f := fun _ => some b) (fun k => ?_) (Ev.now _), by omega, fun _ => ?_⟩
      · rw [laws_szIntSS.l0, if_neg (by omega)]
      · rw [List.take_of_length_le (by omega)] at ht
        omega
    | succ d ih =>
      intro i b h0 h1 hb hb2 hl2 ht
      have hg : l[i.toNat]? = some (rd_L1 l i) := by rw [rd_L1, List.getD_eq_getElem?_getD, List.getElem?_eq_getElem (by omega), Option.getD_some]
      have hm := hr _ (List.mem_of_getElem? hg)
      have hw : wrap64 (b - ((rd_L1 l i).length : Int)) = b - ((rd_L1 l i).length : Int) := wrap_id (by omega) (by omega)
      have htt : tot (l.take (i + 1).toNat) = tot (l.take i.toNat) + (rd_L1 l i).length := by
        rw [show (i + 1).toNat = i.toNat + 1 by omega, List.take_add_one, hg]
        simp [tot]
      by_cases hn : b - ((rd_L1 l i).length : Int) < 0
      · refine ⟨-1, Ev.step (f := fun _ => some (-1)) (fun k => ?_) (Ev.now _), by omega, fun h => by omega⟩
        rw [laws_szIntSS.l0, if_pos (by omega), if_pos h0, laws_szIntS.f, hw, if_pos hn]
        simp
      · obtain ⟨r, hr1, hr2, hr3⟩ := ih (i + 1) (b - ((rd_L1 l i).length : Int)) (by omega) (by omega) (by omega) (by omega) hl2 (by rw [htt]; omega)
        refine ⟨r, Ev.step (f := fun k => laws_szIntSS.l0 k l (b - ((rd_L1 l i).length : Int)) (i + 1)) (fun k => ?_) hr1, hr2, hr3⟩
        rw [laws_szIntSS.l0, if_pos (by omega), if_pos h0, laws_szIntS.f, hw, if_neg hn, Option.bind_some, if_neg hn, wrap_id (x := i + 1) (by omega) (by omega)]
  have hw : wrap64 (a - (l.length : Int)) = a - (l.length : Int) := wrap_id (by omega) (by omega)
  by_cases hn : a - (l.length : Int) < 0
  · refine ⟨-1, Ev.congr (f := fun _ => some (-1)) (fun k => ?_) (Ev.now _), by omega, fun h => by omega⟩
    rw [laws_szIntSS.f, hw, if_pos hn]
  · obtain ⟨r, h1, h2, h3⟩ := loop l.length 0 (a - (l.length : Int)) (by omega) (by omega) (by omega) (by omega) (by omega) (by simp [tot])
    refine ⟨r, Ev.congr (f := fun k => laws_szIntSS.l0 k l (a - (l.length : Int)) 0) (fun k => ?_) h1, h2, fun h => by have := h3 h; omega⟩
    rw [laws_szIntSS.f, hw, if_neg hn]
theorem row_le {l : List (List Int)} {r : List Int} (h : r ∈ l) : r.length ≤ tot l := by
  induction l with
  | nil => cases h
  | cons x l ih =>
    have e : tot (x :: l) = x.length + tot l := by simp [tot]
    rw [e]
    rcases List.mem_cons.1 h with h | h
    · subst h; omega
    · have := ih h; omega
def conv (e : S132) : S130 := ⟨e.f0, e.f1⟩
theorem toEditS_ok (l : List S132) (hl : l.length ≤ 17592186044416) : Ev (fun k => laws_toEditS.f k l) (l.map conv) := by
  have loop : ∀ (d : Nat) (i : Int) (x : List S130), 0 ≤ i → i + d = (l.length : Int) → x.length = l.length → x.take i.toNat = (l.map conv).take i.toNat → Ev (fun k => laws_toEditS.l0 k l x i) (l.map conv) := by
    intro d
    induction d with
    | zero =>
      intro i x h0 h1 hx ht
      refine Ev.step (f := fun _ => some (l.map conv)) (fun k => ?_) (Ev.now _)
      rw [laws_toEditS.l0, if_neg (by omega)]
      rw [List.take_of_length_le (by omega), List.take_of_length_le (by simp; omega)] at ht
      rw [ht]
    | succ d ih =>
      intro i x h0 h1 hx ht
      have hg : (l.map conv)[i.toNat]? = some (conv (rd_T132 l i)) := by rw [rd_T132, List.getElem?_map, List.getD_eq_getElem?_getD, List.getElem?_eq_getElem (by omega)]; rfl
      refine Ev.step (f := fun k => laws_toEditS.l0 k l (x.set i.toNat (conv (rd_T132 l i))) (i + 1)) (fun k => ?_) (ih (i + 1) _ (by omega) (by omega) (by simp [hx]) ?_)
      · rw [laws_toEditS.l0, if_pos (by omega), if_pos h0, laws_toEdit.f, Option.bind_some, if_pos (by omega), wrap_id (x := i + 1) (by omega) (by omega)]
        rfl
      · rw [show (i + 1).toNat = i.toNat + 1 by omega]
        exact take_set (l.map conv) x i.toNat _ (by omega) hg ht
  refine Ev.congr (f := fun k => laws_toEditS.l0 k l (List.replicate l.length z130) 0) (fun k => ?_) (loop l.length 0 _ (by omega) (by omega) (by simp) (by simp))
  rw [laws_toEditS.f, if_pos (by omega), if_pos (by simpa using hl)]
  simp
theorem eqEditS_refl (l : List S130) (hl : l.length ≤ 4611686018427387904) : Ev (fun k => laws_eqEditS.f k l l) true := by
  have loop : ∀ (d : Nat) (i : Int), 0 ≤ i → i + d = (l.length : Int) → Ev (fun k => laws_eqEditS.l0 k l l i) true := by
    intro d
    induction d with
    | zero =>
      intro i h0 h1
      refine Ev.step (f := fun _ => some true) (fun k => ?_) (Ev.now _)
      rw [laws_eqEditS.l0, if_neg (by omega)]
    | succ d ih =>
      intro i h0 h1
      refine Ev.step (f := fun k => laws_eqEditS.l0 k l l (i + 1)) (fun k => ?_) (ih (i + 1) (by omega) (by omega))
      rw [laws_eqEditS.l0, if_pos (by omega), if_pos h0, if_pos (by omega), laws_eqEdit.f, if_pos rfl, if_pos rfl, Option.bind_some, if_pos rfl, wrap_id (x := i + 1) (by omega) (by omega)]
  refine Ev.congr (f := fun k => laws_eqEditS.l0 k l l 0) (fun k => ?_) (loop l.length 0 (by omega) (by omega))
  rw [laws_eqEditS.f, if_pos rfl]
theorem szEditS_ok (l : List S132) (a : Int) (ha : 0 ≤ a) (ha2 : a ≤ 1048576) (hl : l.length ≤ maxLen) : ∃ r, laws_szEditS.f l a = some r ∧ (0 ≤ r → l.length ≤ 1048576) := by
  have hmx : maxLen = 9223372036854775807 := rfl
  have hw : wrap64 (a - (l.length : Int)) = a - (l.length : Int) := wrap_id (by omega) (by omega)
  rw [laws_szEditS.f, hw]
  split
  · exact ⟨_, rfl, fun h => by omega⟩
  · exact ⟨_, rfl, fun h => by omega⟩
theorem markIntS_ok (l : List Int) (a : Int) (ha : 0 ≤ a) (hb : a + (l.length : Int) ≤ 4611686018427387904) : ∃ l', Ev (fun k => laws_markIntS.f k l a) (a + (l.length : Int), l') ∧ l'.length = l.length ∧ ∀ i : Int, 0 ≤ i → i < (l.length : Int) → rd l' i = a + i := by
  have loop : ∀ (d : Nat) (i : Int) (x : List Int), 0 ≤ i → i + d = (l.length : Int) → x.length = l.length → (∀ j : Int, 0 ≤ j → j < i → rd x j = a + j) →
      ∃ l', Ev (fun k => laws_markIntS.l0 k x (a + i) i) (a + (l.length : Int), l') ∧ l'.length = l.length ∧ ∀ j : Int, 0 ≤ j → j < (l.length : Int) → rd l' j = a + j := by
    intro d
    induction d with
    | zero =>
      intro i x h0 h1 hx ht
      refine ⟨x, Ev.step (f := fun _ => some (a + (l.length : Int), x)) (fun k => ?_) (Ev.now _), hx, fun j h2 h3 => ht j h2 (by omega)⟩
      rw [laws_markIntS.l0, if_neg (by omega), show a + i = a + (l.length : Int) by omega]
    | succ d ih =>
      intro i x h0 h1 hx ht
      have hin : inb i x := ⟨h0, by omega⟩
      obtain ⟨l', e1, e2, e3⟩ := ih (i + 1) (x.set i.toNat (a + i)) (by omega) (by omega) (by simp [hx]) (fun j h2 h3 => by
        by_cases hj : j = i
        · subst hj; exact rd_set_eq _ _ _ hin
        · rw [rd_set_ne _ _ _ _ h0 h2 (Ne.symm hj)]; exact ht j h2 (by omega))
      refine ⟨l', Ev.step (f := fun k => laws_markIntS.l0 k (x.set i.toNat (a + i)) (a + (i + 1)) (i + 1)) (fun k => ?_) e1, e2, e3⟩
      rw [laws_markIntS.l0, if_pos (by omega), if_pos h0, wrap_id (x := i + 1) (by omega) (by omega), wrap_id (x := a + i + 1) (by omega) (by omega), Int.add_assoc]
  obtain ⟨l', e1, e2, e3⟩ := loop l.length 0 l (by omega) (by omega) rfl (fun j h2 h3 => by omega)
  rw [Int.add_zero] at e1
  exact ⟨l', e1, e2, e3⟩
theorem heldIntS_ok (l : List Int) (a : Int) (ha : 0 ≤ a) (hb : a + (l.length : Int) ≤ 4611686018427387904) (h : ∀ i : Int, 0 ≤ i → i < (l.length : Int) → rd l i = a + i) : Ev (fun k => laws_heldIntS.f k l a) (a + (l.length : Int)) := by
  have loop : ∀ (d : Nat) (i : Int), 0 ≤ i → i + d = (l.length : Int) → Ev (fun k => laws_heldIntS.l0 k l (a + i) i) (a + (l.length : Int)) := by
    intro d
    induction d with
    | zero =>
      intro i h0 h1
      refine Ev.step (f := fun _ => some (a + (l.length : Int))) (fun k => ?_) (Ev.now _)
      rw [laws_heldIntS.l0, if_neg (by omega), show a + i = a + (l.length : Int) by omega]
    | succ d ih =>
      intro i h0 h1
      refine Ev.step (f := fun k => laws_heldIntS.l0 k l (a + (i + 1)) (i + 1)) (fun k => ?_) (ih (i + 1) (by omega) (by omega))
      rw [laws_heldIntS.l0, if_pos (by omega), if_pos h0, if_pos (h i h0 (by omega)), wrap_id (x := i + 1) (by omega) (by omega), wrap_id (x := a + i + 1) (by omega) (by omega), Int.add_assoc]
  have := loop l.length 0 (by omega) (by omega)
  rw [Int.add_zero] at this
  exact this
theorem markIntSS_ok (l : List (List Int)) (a : Int) (ha : 0 ≤ a) (hb : a + (tot l : Int) ≤ 4611686018427387904) (hl : l.length ≤ 4611686018427387904) : Ev (fun k => laws_markIntSS.f k l a) (a + (tot l : Int)) := by
  have loop : ∀ (d : Nat) (i b : Int) (x : List (List Int)), 0 ≤ i → i + d = (l.length : Int) → 0 ≤ b → x.length = l.length → x.drop i.toNat = l.drop i.toNat → b + (tot (l.drop i.toNat) : Int) = a + (tot l : Int) →
      ∃ l', Ev (fun k => laws_markIntSS.l0 k x b i) (a + (tot l : Int), l') := by
    intro d
    induction d with
    | zero =>
      intro i b x h0 h1 hb0 hx hd ht
      refine ⟨x, Ev.step (f := fun _ => some (a + (tot l : Int), x)) (fun k => ?_) (Ev.now _)⟩
      rw [List.drop_eq_nil_of_le (by omega)] at ht
      rw [laws_markIntSS.l0, if_neg (by omega), ← ht]
      simp [tot]
    | succ d ih =>
      intro i b x h0 h1 hb0 hx hd ht
      have hg : x.getD i.toNat [] = l[i.toNat]'(by omega) := by
        have h2 := congrArg (fun z => z[0]?) hd
        simp only [List.getElem?_drop, Nat.add_zero] at h2
        rw [List.getD_eq_getElem?_getD, h2, List.getElem?_eq_getElem (by omega), Option.getD_some]
      have htt : tot (l.drop i.toNat) = (l[i.toNat]'(by omega)).length + tot (l.drop (i + 1).toNat) := by
        rw [List.drop_eq_getElem_cons (by omega), show (i + 1).toNat = i.toNat + 1 by omega]
        simp only [tot, List.map_cons, List.sum_cons]
      obtain ⟨m, e1, e2, e3⟩ := markIntS_ok (l[i.toNat]'(by omega)) b hb0 (by omega)
      obtain ⟨l', g1⟩ := ih (i + 1) (b + ((l[i.toNat]'(by omega)).length : Int)) (x.set i.toNat m) (by omega) (by omega) (by omega) (by simp [hx]) (by
        rw [List.drop_set_of_lt (by omega), show (i + 1).toNat = i.toNat + 1 by omega, ← List.drop_drop, ← List.drop_drop, hd]) (by omega)
      refine ⟨l', Ev.step (f := fun k => (laws_markIntS.f k (l[i.toNat]'(by omega)) b).bind fun r => laws_markIntSS.l0 k (x.set i.toNat r.2) r.1 (i + 1)) (fun k => ?_)
        (Ev.bind (f := fun k (r : Int × List Int) => laws_markIntSS.l0 k (x.set i.toNat r.2) r.1 (i + 1)) e1 g1)⟩
      rw [laws_markIntSS.l0, if_pos (by omega), if_pos h0, hg, wrap_id (x := i + 1) (by omega) (by omega)]
  obtain ⟨l', K, hK⟩ := loop l.length 0 a l (by omega) (by omega) ha rfl rfl rfl
  exact ⟨K, fun k hk => by have h_ : laws_markIntSS.l0 k l a 0 = _ := hK k hk; show (laws_markIntSS.l0 k l a 0).map Prod.fst = _; rw [h_]; rfl⟩
theorem markEditS_ok (l : List S130) (a : Int) (ha : 0 ≤ a) (hb : a + 2 * (l.length : Int) ≤ 4611686018427387904) : ∃ l', Ev (fun k => laws_markEditS.f k l a) (a + 2 * (l.length : Int), l') := by
  have loop : ∀ (d : Nat) (i : Int) (x : List S130), 0 ≤ i → i + d = (l.length : Int) → x.length = l.length → ∃ l', Ev (fun k => laws_markEditS.l0 k x (a + 2 * i) i) (a + 2 * (l.length : Int), l') := by
    intro d
    induction d with
    | zero =>
      intro i x h0 h1 hx
      refine ⟨x, Ev.step (f := fun _ => some (a + 2 * (l.length : Int), x)) (fun k => ?_) (Ev.now _)⟩
      rw [laws_markEditS.l0, if_neg (by omega), show a + 2 * i = a + 2 * (l.length : Int) by omega]
    | succ d ih =>
      intro i x h0 h1 hx
      obtain ⟨l', e1⟩ := ih (i + 1) ((x.set i.toNat (⟨a + 2 * i, (rd_T130 x i).f1⟩ : S130)).set i.toNat (⟨(rd_T130 (x.set i.toNat (⟨a + 2 * i, (rd_T130 x i).f1⟩ : S130)) i).f0, a + 2 * i + 1⟩ : S130)) (by omega) (by omega) (by simp [hx])
      refine ⟨l', Ev.step (fun k => ?_) e1⟩
      rw [laws_markEditS.l0, if_pos (by omega), if_pos h0, Option.bind_some, wrap_id (x := i + 1) (by omega) (by omega), wrap_id (x := a + 2 * i + 1) (by omega) (by omega), wrap_id (x := a + 2 * i + 1 + 1) (by omega) (by omega), show a + 2 * i + 1 + 1 = a + 2 * (i + 1) by omega]
  obtain ⟨l', e1⟩ := loop l.length 0 l (by omega) (by omega) rfl
  rw [Int.mul_zero, Int.add_zero] at e1
  exact ⟨l', e1⟩
end Go.Proofs.Ytclpjlaielphfaa.Pure
end
