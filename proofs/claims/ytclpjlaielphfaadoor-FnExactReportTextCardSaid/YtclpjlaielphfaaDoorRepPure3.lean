/- Used by the claim's last text. -/
import Derived.Test.YtclpjlaielphfaaDoorRepPure2
section
namespace Go.Proofs.YtclpjlaielphfaaDoor.Pure
open Go Go.RowKit Go.Proofs.YtclpjlaielphfaaDoorW.PrintWords Go.Proofs.YtclpjlaielphfaaDoorW.PrintLast Go.Proofs.YtclpjlaielphfaaDoorW.PrintMore Go.Proofs.YtclpjlaielphfaaDoor.PT
set_option linter.unusedVariables false
set_option linter.unusedSimpArgs false
theorem T42_get (l : List S42) (i : Nat) (h : i < l.length) : rd_T42 l (i : Int) = l[i] := by
  rw [rd_T42, Int.toNat_natCast, List.getD_eq_getElem?_getD, List.getElem?_eq_getElem h, Option.getD_some]
theorem szRow_ok (s : ByteArray) (v : List Int) (b : Int) (h0 : 0 ≤ b) (h1 : b ≤ 1048576) (hs : s.size ≤ maxLen) (hv : v.length ≤ maxLen) : ∃ r, laws_szRow.f s v b = some r ∧ r ≤ b ∧ (0 ≤ r → (s.size : Int) ≤ 1048576 ∧ (v.length : Int) ≤ 1048576) := by
  have hmx : maxLen = 9223372036854775807 := rfl
  rw [laws_szRow.f, wrap_id (x := b - (s.size : Int)) (by omega) (by omega)]
  by_cases h : b - (s.size : Int) < 0
  · exact ⟨-1, by rw [if_pos h], by omega, fun h_ => by omega⟩
  · rw [if_neg h, laws_szIntS.f, wrap_id (x := b - (s.size : Int) - (v.length : Int)) (by omega) (by omega)]
    by_cases h2 : b - (s.size : Int) - (v.length : Int) < 0
    · exact ⟨-1, by rw [if_pos h2]; rfl, by omega, fun h_ => by omega⟩
    · exact ⟨b - (s.size : Int) - (v.length : Int), by rw [if_neg h2, Option.bind_some, if_neg h2], by omega, fun h_ => by omega⟩
theorem szRowS_ok (l : List S42) (a : Int) (ha : 0 ≤ a) (ha2 : a ≤ 1048576) (hl : l.length ≤ maxLen) (hr : ∀ x ∈ l, x.f0.size ≤ maxLen ∧ x.f1.length ≤ maxLen) :
    ∃ r, Ev (fun k => laws_szRowS.f k l a) r ∧ (0 ≤ r → (l.length : Int) ≤ 1048576 ∧ ∀ x ∈ l, x.f0.size ≤ 1048576 ∧ x.f1.length ≤ 1048576) := by
  have hmx : maxLen = 9223372036854775807 := rfl
  have loop : ∀ (d i : Nat) (b : Int), i + d = l.length → 0 ≤ b → b ≤ 1048576 → (l.length : Int) ≤ 1048576 → (∀ (j : Nat) (hj : j < l.length), j < i → l[j].f0.size ≤ 1048576 ∧ l[j].f1.length ≤ 1048576) →
      ∃ r, Ev (fun k => laws_szRowS.l0 k l b (i : Int)) r ∧ (0 ≤ r → (l.length : Int) ≤ 1048576 ∧ ∀ x ∈ l, x.f0.size ≤ 1048576 ∧ x.f1.length ≤ 1048576) := by
    intro d
    induction d with
    | zero =>
      intro i b h1 hb hb2 hl2 hp
      refine ⟨b, Ev.step (f := fun _ => some b) (fun k => ?_) (Ev.now _), fun _ => ⟨hl2, fun x hx => ?_⟩⟩
      · rw [laws_szRowS.l0, if_neg (by omega)]
      · obtain ⟨j, hj, e⟩ := List.mem_iff_getElem.1 hx
        rw [← e]
        exact hp j hj (by omega)
    | succ d ih =>
      intro i b h1 hb hb2 hl2 hp
      have hil : i < l.length := by omega
      have hi1 : (i : Int) + 1 = ((i + 1 : Nat) : Int) := by omega
      have hm := hr _ (List.getElem_mem hil)
      obtain ⟨s, s1, s2, s3⟩ := szRow_ok l[i].f0 l[i].f1 b hb hb2 hm.1 hm.2
      by_cases hn : s < 0
      · refine ⟨-1, Ev.step (f := fun _ => some (-1)) (fun k => ?_) (Ev.now _), fun h => by omega⟩
        rw [laws_szRowS.l0, if_pos (by omega), if_pos (by omega), T42_get l i hil, s1, Option.bind_some, if_pos hn]
      · obtain ⟨r, r1, r2⟩ := ih (i + 1) s (by omega) (by omega) (by omega) hl2 (fun j hj hji => by
          by_cases e : j = i
          · subst e
            have := s3 (by omega)
            omega
          · exact hp j hj (by omega))
        refine ⟨r, Ev.step (fun k => ?_) r1, r2⟩
        rw [laws_szRowS.l0, if_pos (by omega), if_pos (by omega), T42_get l i hil, s1, Option.bind_some, if_neg hn, wrap_id (x := (i : Int) + 1) (by omega) (by omega), hi1]
  have hw : wrap64 (a - (l.length : Int)) = a - (l.length : Int) := wrap_id (by omega) (by omega)
  by_cases hn : a - (l.length : Int) < 0
  · refine ⟨-1, Ev.congr (f := fun _ => some (-1)) (fun k => ?_) (Ev.now _), fun h => by omega⟩
    rw [laws_szRowS.f, hw, if_pos hn]
  · obtain ⟨r, h1, h2⟩ := loop l.length 0 (a - (l.length : Int)) (by omega) (by omega) (by omega) (by omega) (fun j hj h => by omega)
    refine ⟨r, Ev.congr (fun k => ?_) h1, h2⟩
    rw [laws_szRowS.f, hw, if_neg hn]
    rfl
theorem szReport_ok (t : ByteArray) (n : Int) (l : List S42) (ht : t.size ≤ maxLen) (hl : l.length ≤ maxLen) (hr : ∀ x ∈ l, x.f0.size ≤ maxLen ∧ x.f1.length ≤ maxLen) :
    ∃ r, Ev (fun k => laws_szReport.f k t n l 1048576) r ∧ (0 ≤ r → (t.size : Int) ≤ 1048576 ∧ (l.length : Int) ≤ 1048576 ∧ ∀ x ∈ l, x.f0.size ≤ 1048576 ∧ x.f1.length ≤ 1048576) := by
  have hmx : maxLen = 9223372036854775807 := rfl
  have hw : wrap64 (1048576 - (t.size : Int)) = 1048576 - (t.size : Int) := wrap_id (by omega) (by omega)
  by_cases hn : (1048576 : Int) - (t.size : Int) < 0
  · refine ⟨-1, Ev.congr (f := fun _ => some (-1)) (fun k => ?_) (Ev.now _), fun h => by omega⟩
    rw [laws_szReport.f, hw, if_pos hn]
  · obtain ⟨r, h1, h2⟩ := szRowS_ok l (1048576 - (t.size : Int)) (by omega) (by omega) hl hr
    by_cases hr0 : r < 0
    · refine ⟨-1, Ev.congr (fun k => by rw [laws_szReport.f, hw, if_neg hn]) (Ev.bind h1 ?_), fun h => by omega⟩
      simp only [if_pos hr0]
      exact Ev.now _
    · refine ⟨r, Ev.congr (fun k => by rw [laws_szReport.f, hw, if_neg hn]) (Ev.bind h1 ?_), fun h => ⟨by omega, h2 h⟩⟩
      simp only [if_neg hr0]
      exact Ev.now _
theorem take_set {α : Type} (l x : List α) (i : Nat) (v : α) (hi : i < x.length) (hv : l[i]? = some v) (h : x.take i = l.take i) : (x.set i v).take (i + 1) = l.take (i + 1) := by
  rw [List.take_add_one, List.take_add_one, List.take_set_of_le (Nat.le_refl _), h, hv, List.getElem?_set_self hi]
theorem toIntS_ok (l : List Int) (hl : l.length ≤ 35184372088832) : Ev (fun k => laws_toIntS.f k l) l := by
  have loop : ∀ (d i : Nat) (x : List Int), i + d = l.length → x.length = l.length → x.take i = l.take i → Ev (fun k => laws_toIntS.l0 k l x (i : Int)) l := by
    intro d
    induction d with
    | zero =>
      intro i x h1 hx ht
      rw [List.take_of_length_le (by omega), List.take_of_length_le (by omega)] at ht
      subst ht
      exact Ev.step (f := fun _ => some x) (fun k => by rw [laws_toIntS.l0, if_neg (by omega)]) (Ev.now _)
    | succ d ih =>
      intro i x h1 hx ht
      have hil : i < l.length := by omega
      have hi1 : (i : Int) + 1 = ((i + 1 : Nat) : Int) := by omega
      refine Ev.step (fun k => ?_) (ih (i + 1) (x.set i l[i]) (by omega) (by simp [hx]) (take_set l x i _ (by omega) (List.getElem?_eq_getElem hil) ht))
      rw [laws_toIntS.l0, if_pos (by omega), if_pos (by omega), if_pos (by omega), rd_nat l i hil, Int.toNat_natCast, wrap_id (x := (i : Int) + 1) (by omega) (by omega), hi1]
  refine Ev.congr (fun k => ?_) (loop l.length 0 (List.replicate l.length 0) (by omega) (by simp) (by simp))
  rw [laws_toIntS.f, if_pos (by omega), Int.toNat_natCast, if_pos hl]
  rfl
def conv (x : S42) : S43 := ⟨x.f0, x.f1⟩
theorem toRow_ok (s : ByteArray) (v : List Int) (hv : v.length ≤ 35184372088832) : Ev (fun k => laws_toRow.f k s v) (s, v) :=
  Ev.congr (fun k => by rw [laws_toRow.f]) (Ev.bind (toIntS_ok v hv) (Ev.now _))
theorem toRowS_ok (l : List S42) (hl : l.length ≤ 1048576) (hr : ∀ x ∈ l, x.f0.size ≤ 1048576 ∧ x.f1.length ≤ 1048576) : Ev (fun k => laws_toRowS.f k l) (l.map conv) := by
  have loop : ∀ (d i : Nat) (x : List S43), i + d = l.length → x.length = l.length → x.take i = (l.map conv).take i → Ev (fun k => laws_toRowS.l0 k l x (i : Int)) (l.map conv) := by
    intro d
    induction d with
    | zero =>
      intro i x h1 hx ht
      rw [List.take_of_length_le (by omega), List.take_of_length_le (by simp; omega)] at ht
      rw [← ht]
      exact Ev.step (f := fun _ => some x) (fun k => by rw [laws_toRowS.l0, if_neg (by omega)]) (Ev.now _)
    | succ d ih =>
      intro i x h1 hx ht
      have hil : i < l.length := by omega
      have hi1 : (i : Int) + 1 = ((i + 1 : Nat) : Int) := by omega
      have hm := hr _ (List.getElem_mem hil)
      refine Ev.step (f := fun k => (laws_toRow.f k l[i].f0 l[i].f1).bind fun bt => laws_toRowS.l0 k l (x.set i (⟨bt.1, bt.2⟩ : S43)) ((i + 1 : Nat) : Int)) (fun k => ?_)
        (Ev.bind (toRow_ok l[i].f0 l[i].f1 (by omega)) (ih (i + 1) (x.set i (conv l[i])) (by omega) (by simp [hx]) (take_set (l.map conv) x i _ (by omega) (by rw [List.getElem?_map, List.getElem?_eq_getElem hil]; rfl) ht)))
      rw [laws_toRowS.l0, if_pos (by omega), if_pos (by omega), T42_get l i hil, wrap_id (x := (i : Int) + 1) (by omega) (by omega), hi1]
      congr 1
      funext bt
      rw [if_pos (by omega), Int.toNat_natCast]
  refine Ev.congr (fun k => ?_) (loop l.length 0 (List.replicate l.length z43) (by omega) (by simp) (by simp))
  rw [laws_toRowS.f, if_pos (by omega), Int.toNat_natCast, if_pos (by omega)]
  rfl
theorem toReport_ok (t : ByteArray) (n : Int) (l : List S42) (hl : l.length ≤ 1048576) (hr : ∀ x ∈ l, x.f0.size ≤ 1048576 ∧ x.f1.length ≤ 1048576) : Ev (fun k => laws_toReport.f k t n l) (t, n, l.map conv) :=
  Ev.congr (fun k => by rw [laws_toReport.f]) (Ev.bind (toRowS_ok l hl hr) (Ev.now _))
theorem eqIntS_refl (l : List Int) (hl : l.length ≤ 4611686018427387904) : Ev (fun k => laws_eqIntS.f k l l) true := by
  have loop : ∀ (d i : Nat), i + d = l.length → Ev (fun k => laws_eqIntS.l0 k l l (i : Int)) true := by
    intro d
    induction d with
    | zero =>
      intro i h1
      exact Ev.step (f := fun _ => some true) (fun k => by rw [laws_eqIntS.l0, if_neg (by omega)]) (Ev.now _)
    | succ d ih =>
      intro i h1
      have hi1 : (i : Int) + 1 = ((i + 1 : Nat) : Int) := by omega
      exact Ev.step (fun k => by rw [laws_eqIntS.l0, if_pos (by omega), if_pos (by omega), if_pos (by omega), if_pos rfl, wrap_id (x := (i : Int) + 1) (by omega) (by omega), hi1]) (ih (i + 1) (by omega))
  exact Ev.congr (fun k => by rw [laws_eqIntS.f, if_pos rfl]; rfl) (loop l.length 0 (by omega))
theorem eqRow_refl (s : ByteArray) (v : List Int) (hv : v.length ≤ 4611686018427387904) : Ev (fun k => laws_eqRow.f k s v s v) true := by
  refine Ev.congr (fun k => by rw [laws_eqRow.f, if_pos rfl]) (Ev.bind (eqIntS_refl v hv) ?_)
  simp only [if_true]
  exact Ev.now _
theorem eqRowS_refl (l : List S43) (hl : l.length ≤ 4611686018427387904) (hr : ∀ x ∈ l, x.f1.length ≤ 4611686018427387904) : Ev (fun k => laws_eqRowS.f k l l) true := by
  have loop : ∀ (d i : Nat), i + d = l.length → Ev (fun k => laws_eqRowS.l0 k l l (i : Int)) true := by
    intro d
    induction d with
    | zero =>
      intro i h1
      exact Ev.step (f := fun _ => some true) (fun k => by rw [laws_eqRowS.l0, if_neg (by omega)]) (Ev.now _)
    | succ d ih =>
      intro i h1
      have hil : i < l.length := by omega
      have hi1 : (i : Int) + 1 = ((i + 1 : Nat) : Int) := by omega
      refine Ev.step (fun k => by rw [laws_eqRowS.l0, if_pos (by omega), if_pos (by omega), if_pos (by omega), wrap_id (x := (i : Int) + 1) (by omega) (by omega), hi1]) (Ev.bind (eqRow_refl _ _ (by rw [T43_get l i hil]; exact hr _ (List.getElem_mem hil))) ?_)
      simp only [if_true]
      exact ih (i + 1) (by omega)
  exact Ev.congr (fun k => by rw [laws_eqRowS.f, if_pos rfl]; rfl) (loop l.length 0 (by omega))
theorem eqReport_refl (t : ByteArray) (n : Int) (l : List S43) (hl : l.length ≤ 4611686018427387904) (hr : ∀ x ∈ l, x.f1.length ≤ 4611686018427387904) : Ev (fun k => laws_eqReport.f k t n l t n l) true := by
  refine Ev.congr (fun k => by rw [laws_eqReport.f, if_pos rfl, if_pos rfl]) (Ev.bind (eqRowS_refl l hl hr) ?_)
  simp only [if_true]
  exact Ev.now _
open Classical in
theorem ReportText_ok (t : ByteArray) (n : Int) (l : List S43) (ht : t.size ≤ 4611686018427387904) (hl : l.length ≤ 4611686018427387904) (hn : ∀ x, x ∈ l → x.f0.size ≤ 4611686018427387904 ∧ x.f1.length ≤ 4611686018427387904) :
    ∃ g, Ev (fun k => spec_ReportText.f k t n l) g ∧ Ev (fun k => impl_ReportText.f k t n l) g := by
  have h1 := rpGood_ok t n l ht hl hn
  have h2 := IsReport_ok t n l ht hl hn
  by_cases hG : Good t n l
  · rw [decide_eq_true hG] at h1 h2
    refine ⟨(ofL (textL t n l), true), Ev.congr (fun k => by rw [spec_ReportText.f]) (Ev.bind h1 ?_), Ev.congr (fun k => by rw [impl_ReportText.f]) (Ev.bind h2 ?_)⟩
    · simp only [if_true]
      exact Ev.bind (rpText_ok hG) (Ev.now _)
    · simp only [if_true]
      exact Ev.bind (reportText_ok hG) (Ev.now _)
  · rw [decide_eq_false hG] at h1 h2
    refine ⟨((⟨#[]⟩ : ByteArray), false), Ev.congr (fun k => by rw [spec_ReportText.f]) (Ev.bind h1 ?_), Ev.congr (fun k => by rw [impl_ReportText.f]) (Ev.bind h2 ?_)⟩
    · exact Ev.congr (fun k => if_neg (by decide)) (Ev.now _)
    · exact Ev.congr (fun k => if_neg (by decide)) (Ev.now _)
theorem FnExactReportText (t : ByteArray) (n : Int) (l : List S42) (ht : t.size ≤ maxLen) (hl : l.length ≤ maxLen) (hr : ∀ x ∈ l, x.f0.size ≤ maxLen ∧ x.f1.length ≤ maxLen) : ∃ k, laws_FnExactReportText.f k t n l = some true := by
  refine Ev.rounds (g := fun k => laws_FnExactReportText.f k t n l) ?_
  obtain ⟨s, s1, s2⟩ := szReport_ok t n l ht hl hr
  refine Ev.congr (fun k => by rw [laws_FnExactReportText.f]) (Ev.bind s1 ?_)
  by_cases hs : s < 0
  · simp only [if_pos hs]
    exact Ev.now _
  simp only [if_neg hs]
  obtain ⟨b1, b2, b3⟩ := s2 (by omega)
  have cR := toReport_ok t n l (by omega) b3
  have hcl : (l.map conv).length = l.length := by simp
  have hcm : ∀ x, x ∈ l.map conv → x.f0.size ≤ 1048576 ∧ x.f1.length ≤ 1048576 := fun x hx => by
    obtain ⟨y, hy, rfl⟩ := List.mem_map.1 hx
    exact b3 y hy
  obtain ⟨g, g1, g2⟩ := ReportText_ok t n (l.map conv) (by omega) (by omega) (fun x hx => by have := hcm x hx; omega)
  refine Ev.bind cR ?_
  refine Ev.bind g1 ?_
  refine Ev.bind cR ?_
  refine Ev.bind g2 ?_
  simp only [if_true, bne_self_eq_false]
  refine Ev.step (fun k => by rw [laws_FnExactReportText.j0, if_neg (by decide)]) ?_
  refine Ev.bind cR ?_
  refine Ev.bind (eqReport_refl t n (l.map conv) (by omega) (fun x hx => by have := hcm x hx; omega)) ?_
  simp only [if_true]
  exact Ev.now _
end Go.Proofs.YtclpjlaielphfaaDoor.Pure
end
