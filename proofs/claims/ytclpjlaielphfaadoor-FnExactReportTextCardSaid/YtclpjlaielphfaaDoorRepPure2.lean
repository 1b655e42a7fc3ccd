/- Used by the claim's last text. -/
import Derived.Test.YtclpjlaielphfaaDoorRepPure
section
namespace Go.Proofs.YtclpjlaielphfaaDoor.Pure
open Go Go.RowKit Go.Proofs.YtclpjlaielphfaaDoorW.PrintWords Go.Proofs.YtclpjlaielphfaaDoorW.PrintLast Go.Proofs.YtclpjlaielphfaaDoorW.PrintMore Go.Proofs.YtclpjlaielphfaaDoor.PT
set_option linter.unusedVariables false
set_option linter.unusedSimpArgs false
def bs (a : ByteArray) : List UInt8 := a.data.toList
def ofL (l : List UInt8) : ByteArray := ⟨l.toArray⟩
theorem bs_ofL (l : List UInt8) : bs (ofL l) = l := rfl
theorem bs_inj {a b : ByteArray} (h : bs a = bs b) : a = b := by
  obtain ⟨⟨x⟩⟩ := a
  obtain ⟨⟨y⟩⟩ := b
  simp only [bs] at h
  rw [h]
theorem bs_append (a b : ByteArray) : bs (a ++ b) = bs a ++ bs b := by
  simp [bs]
theorem bs_size (a : ByteArray) : a.size = (bs a).length := by
  obtain ⟨⟨x⟩⟩ := a
  rfl
theorem ofL_size (l : List UInt8) : (ofL l).size = l.length := rfl
theorem digits_len (u : Nat) : (Lib.decDigits u).length ≤ u + 1 := by
  induction u using Nat.strongRecOn with
  | ind u ih =>
    rw [Lib.decDigits]
    by_cases h : u < 10
    · rw [dif_pos h]; simp
    · rw [dif_neg h, List.length_append]
      have := ih (u / 10) (by omega)
      simp
      omega
theorem itoa_len (n : Int) (h0 : -1000000000 ≤ n) (h1 : n ≤ 1000000000) : (Lib.itoa n).length ≤ 1000000002 := by
  unfold Lib.itoa
  split
  · have := digits_len n.natAbs
    rw [List.length_cons]
    omega
  · have := digits_len n.toNat
    omega
theorem num_byte (c : Nat) (h : c < 10) : strOfNums [(48 + (c : Int)) % 256] = ofL [UInt8.ofNat (48 + c)] := by
  have : ((48 + (c : Int)) % 256) = ((48 + c : Nat) : Int) := by omega
  rw [this]
  rfl
theorem l1Num_ok (u : Nat) : u ≤ 1000000000000 → Ev (fun k => spec_l1Num.f k (u : Int)) (ofL (Lib.decDigits u)) := by
  induction u using Nat.strongRecOn with
  | ind u ih =>
    intro hu
    by_cases h : u < 10
    · refine Ev.step (f := fun _ => some (ofL (Lib.decDigits u))) (fun k => ?_) (Ev.now _)
      rw [spec_l1Num.f, if_pos (by omega), wrap_id (by omega) (by omega), num_byte u h, Lib.decDigits, dif_pos h]
    · have ih' := ih (u / 10) (by omega) (by omega)
      have hd := digits_len (u / 10)
      have e1 : wrap64 (Int.tdiv (u : Int) 10) = ((u / 10 : Nat) : Int) := by
        rw [Int.tdiv_eq_ediv_of_nonneg (by omega), wrap_id (by omega) (by omega)]
        omega
      have e2 : wrap64 (48 + Int.tmod (u : Int) 10) = 48 + ((u % 10 : Nat) : Int) := by
        rw [Int.tmod_eq_emod_of_nonneg (by omega), wrap_id (by omega) (by omega)]
        omega
      refine Ev.step (f := fun k => (spec_l1Num.f k ((u / 10 : Nat) : Int)).bind fun t124 => some (t124 ++ ofL [UInt8.ofNat (48 + u % 10)])) (fun k => ?_) ?_
      · rw [spec_l1Num.f, if_neg (by omega), e1]
        cases hk : spec_l1Num.f k ((u / 10 : Nat) : Int) with
        | none => rfl
        | some t =>
          have ht : t = ofL (Lib.decDigits (u / 10)) := by
            obtain ⟨K, hK⟩ := ih'
            have h1 := at_rounds (fun j => spec_l1Num.mono _ j) (Nat.le_max_left k K) hk
            have h2 := hK (max k K) (Nat.le_max_right _ _)
            simp only [] at h2
            rw [h1] at h2
            exact Option.some.inj h2
          subst ht
          rw [Option.bind_some, Option.bind_some, Option.bind_some, e2, num_byte _ (Nat.mod_lt _ (by omega)), if_pos (by rw [ofL_size, ofL_size]; simp; omega)]
      · refine Ev.bind ih' ?_
        have : ofL (Lib.decDigits (u / 10)) ++ ofL [UInt8.ofNat (48 + u % 10)] = ofL (Lib.decDigits u) := by
          apply bs_inj
          rw [bs_append, bs_ofL, bs_ofL, bs_ofL]
          conv => rhs; rw [Lib.decDigits, dif_neg h]
        rw [this]
        exact Ev.now _
theorem l1Int_ok (n : Int) (h0 : -1000000000 ≤ n) (h1 : n ≤ 1000000000) : Ev (fun k => spec_l1Int.f k n) (ofL (Lib.itoa n)) := by
  have hlen := itoa_len n h0 h1
  by_cases h : n < 0
  · have e : wrap64 (-n) = ((n.natAbs : Nat) : Int) := by rw [wrap_id (by omega) (by omega)]; omega
    refine Ev.congr (fun k => by rw [spec_l1Int.f, if_pos h, e]) (Ev.bind (l1Num_ok n.natAbs (by omega)) ?_)
    have hd := digits_len n.natAbs
    refine Ev.congr (f := fun _ => some (ofL (Lib.itoa n))) (fun k => ?_) (Ev.now _)
    rw [if_pos (by rw [ofL_size]; omega)]
    congr 1
    apply bs_inj
    rw [bs_append, bs_ofL, bs_ofL, Lib.itoa, if_pos h]
    rfl
  · have e : n = ((n.toNat : Nat) : Int) := by omega
    refine Ev.congr (fun k => by rw [spec_l1Int.f, if_neg h]) ?_
    have := l1Num_ok n.toNat (by omega)
    rw [← e] at this
    refine Ev.bind this ?_
    rw [Lib.itoa, if_neg h]
    exact Ev.now _
theorem itoa_f (n : Int) (h0 : -1000000000 ≤ n) (h1 : n ≤ 1000000000) : strconv_Itoa.f n = some (ofL (Lib.itoa n)) := by
  rw [strconv_Itoa.f, if_pos (by omega)]
  rfl
def numsL (v : List Int) : List UInt8 := (v.map fun n => 32 :: Lib.itoa n).flatten
def rowL (x : S43) : List UInt8 := bs x.f0 ++ numsL x.f1 ++ [10]
def headL (t : ByteArray) (n : Int) : List UInt8 := [114, 101, 112, 111, 114, 116, 32] ++ bs t ++ [32] ++ Lib.itoa n ++ [10]
def textL (t : ByteArray) (n : Int) (l : List S43) : List UInt8 := headL t n ++ (l.map rowL).flatten
theorem numsL_len (v : List Int) (h : ∀ x, x ∈ v → -1000000000 ≤ x ∧ x ≤ 1000000000) : (numsL v).length ≤ 1000000003 * v.length := by
  induction v with
  | nil => simp [numsL]
  | cons x v ih =>
    have h1 := ih (fun y hy => h y (List.mem_cons_of_mem _ hy))
    have h2 := itoa_len x (h x (List.mem_cons_self ..)).1 (h x (List.mem_cons_self ..)).2
    simp only [numsL, List.map_cons, List.flatten_cons, List.length_append, List.length_cons] at h1 ⊢
    omega
theorem InRange.mem {v : List Int} (h : InRange v) : ∀ x, x ∈ v → -1000000000 ≤ x ∧ x ≤ 1000000000 := fun x hx => by
  obtain ⟨i, hi, e⟩ := List.mem_iff_getElem.1 hx
  have := h.r i hi
  rw [rd, Int.toNat_natCast, List.getD_eq_getElem?_getD, List.getElem?_eq_getElem hi, Option.getD_some, e] at this
  exact this
theorem rd_nat (l : List Int) (i : Nat) (h : i < l.length) : rd l (i : Int) = l[i] := by
  rw [rd, Int.toNat_natCast, List.getD_eq_getElem?_getD, List.getElem?_eq_getElem h, Option.getD_some]
theorem join_nums (v : List Int) (hv : v ≠ []) : 32 :: Lib.join (v.map Lib.itoa) [32] = numsL v := by
  cases v with
  | nil => exact absurd rfl hv
  | cons x r =>
    rw [List.map_cons, Lib.join_cons]
    simp only [numsL, List.map_cons, List.flatten_cons, Lib.joinTail, List.map_map, List.cons_append]
    rfl
theorem numbersText_ok (v : List Int) (hr : InRange v) (hl : v.length ≤ 8) (hv : v ≠ []) : Ev (fun k => impl_numbersText.f k v) (ofL (Lib.join (v.map Lib.itoa) [32])) := by
  have hlen := numsL_len v hr.mem
  have hj := join_nums v hv
  have loop : ∀ (d j : Nat) (acc : List ByteArray), j + d = v.length → acc = (v.take j).map (fun n => ofL (Lib.itoa n)) → Ev (fun k => impl_numbersText.l0 k acc v (v.length : Int) (j : Int)) (ofL (Lib.join (v.map Lib.itoa) [32])) := by
    intro d
    induction d with
    | zero =>
      intro j acc h1 ha
      rw [List.take_of_length_le (by omega)] at ha
      refine Ev.step (f := fun _ => some (ofL (Lib.join (v.map Lib.itoa) [32]))) (fun k => ?_) (Ev.now _)
      have e : joinB acc (⟨#[32]⟩ : ByteArray) = Lib.join (v.map Lib.itoa) [32] := by
        unfold joinB
        rw [ha, List.map_map]
        rfl
      have hjl : (Lib.join (v.map Lib.itoa) [32]).length ≤ 100000000000000 := by
        have := congrArg List.length hj
        rw [List.length_cons] at this
        omega
      rw [impl_numbersText.l0, if_neg (by omega), strings_Join.f, e, if_pos ⟨by rw [ha, List.length_map]; omega, hjl⟩]
      rfl
    | succ d ih =>
      intro j acc h1 ha
      have hjl : j < v.length := by omega
      have hx := hr.r j hjl
      have hj1 : (j : Int) + 1 = ((j + 1 : Nat) : Int) := by omega
      refine Ev.step (fun k => ?_) (ih (j + 1) (acc ++ [ofL (Lib.itoa v[j])]) (by omega) (by rw [ha, List.take_add_one, List.getElem?_eq_getElem hjl, List.map_append]; rfl))
      rw [rd_nat v j hjl] at hx
      rw [impl_numbersText.l0, if_pos (by omega), if_pos (by omega), if_pos (by omega), rd_nat v j hjl, itoa_f _ hx.1 hx.2, Option.bind_some, if_pos (by rw [ha]; simp; omega), wrap_id (x := (j : Int) + 1) (by omega) (by omega), hj1]
  have := loop v.length 0 [] (by omega) (by simp)
  exact Ev.congr (fun k => by rw [impl_numbersText.f]; rfl) this
section
variable {t : ByteArray} {n : Int} {l : List S43} (hG : Good t n l)
include hG
theorem rpText_ok : Ev (fun k => spec_rpText.f k t n l) (ofL (textL t n l)) := by
  have hw := hG.wide
  have hf := hG.few
  have htn := hG.title.n
  have hit := itoa_len n (by omega) (by omega)
  have inner : ∀ (i : Nat) (v : List Int), InRange v → v.length ≤ 8 → i < l.length → ∀ (d j : Nat) (acc : List UInt8), j + d = v.length → acc.length ≤ 30000000000 * (i + 1) + 2000000000 * j → ∀ r, Ev (fun k => spec_rpText.l0 k (ofL (acc ++ numsL (v.drop j) ++ [10])) l (l.length : Int) ((i : Int) + 1)) r →
      Ev (fun k => spec_rpText.l1 k (ofL acc) l (l.length : Int) (i : Int) v (v.length : Int) (j : Int)) r := by
    intro i v hv hl8 hil d
    induction d with
    | zero =>
      intro j acc h1 ha r hr
      rw [List.drop_eq_nil_of_le (by omega)] at hr
      refine Ev.step (fun k => ?_) hr
      rw [spec_rpText.l1, if_neg (by omega), if_pos (by rw [ofL_size]; omega), wrap_id (x := (i : Int) + 1) (by omega) (by omega)]
      congr 1
      apply bs_inj
      rw [bs_append, bs_ofL, bs_ofL]
      simp [numsL, bs]
    | succ d ih =>
      intro j acc h1 ha r hr
      have hjl : j < v.length := by omega
      have hx := hv.r j hjl
      rw [rd_nat v j hjl] at hx
      have hj1 : (j : Int) + 1 = ((j + 1 : Nat) : Int) := by omega
      have hlen := itoa_len _ hx.1 hx.2
      have h_ := ih (j + 1) (acc ++ 32 :: Lib.itoa v[j]) (by omega) (by rw [List.length_append, List.length_cons]; omega) r (by
        rw [List.drop_eq_getElem_cons hjl] at hr
        have e : acc ++ numsL (v[j] :: v.drop (j + 1)) ++ [10] = acc ++ 32 :: Lib.itoa v[j] ++ numsL (v.drop (j + 1)) ++ [10] := by
          simp only [numsL, List.map_cons, List.flatten_cons, List.append_assoc]
        rw [e] at hr
        exact hr)
      refine Ev.step (f := fun k => (spec_l1Int.f k v[j]).bind fun t135 => (if 1 + t135.size ≤ 9223372036854775807 then (if (ofL acc).size + ((⟨#[32]⟩ : ByteArray) ++ t135).size ≤ 9223372036854775807 then spec_rpText.l1 k ((ofL acc) ++ ((⟨#[32]⟩ : ByteArray) ++ t135)) l (l.length : Int) (i : Int) v (v.length : Int) ((j + 1 : Nat) : Int) else none) else none)) (fun k => ?_) (Ev.bind (l1Int_ok _ hx.1 hx.2) ?_)
      · rw [spec_rpText.l1, if_pos (by omega), if_pos (by omega), if_pos (by omega), rd_nat v j hjl, wrap_id (x := (j : Int) + 1) (by omega) (by omega), hj1]
      · refine Ev.congr (fun k => ?_) h_
        have e1 : ofL acc ++ ((⟨#[32]⟩ : ByteArray) ++ ofL (Lib.itoa v[j])) = ofL (acc ++ 32 :: Lib.itoa v[j]) := by
          apply bs_inj
          rw [bs_append, bs_append, bs_ofL, bs_ofL, bs_ofL]
          rfl
        have e2 : ((⟨#[32]⟩ : ByteArray) ++ ofL (Lib.itoa v[j])).size = 1 + (Lib.itoa v[j]).length := by
          rw [bs_size, bs_append, List.length_append, bs_ofL]
          rfl
        rw [e2, e1, ofL_size, ofL_size, if_pos (by omega), if_pos (by omega)]
  have outer : ∀ (d i : Nat) (acc : List UInt8), i + d = l.length → acc.length ≤ 30000000000 * i + 20000000000 → Ev (fun k => spec_rpText.l0 k (ofL acc) l (l.length : Int) (i : Int)) (ofL (acc ++ ((l.drop i).map rowL).flatten)) := by
    intro d
    induction d with
    | zero =>
      intro i acc h1 ha
      refine Ev.step (f := fun _ => some (ofL (acc ++ ((l.drop i).map rowL).flatten))) (fun k => ?_) (Ev.now _)
      rw [spec_rpText.l0, if_neg (by omega), List.drop_eq_nil_of_le (by omega)]
      simp
    | succ d ih =>
      intro i acc h1 ha
      have hil : i < l.length := by omega
      have hR := hG.rows i hil
      have hg := T43_get l i hil
      have hnm := hR.name.n
      have hln := hR.len
      have hrg := hR.rng
      rw [hg] at hnm hln hrg
      have hsz := bs_size l[i].f0
      have hnl := numsL_len l[i].f1 hrg.mem
      have hi1 : (i : Int) + 1 = ((i + 1 : Nat) : Int) := by omega
      refine Ev.step (f := fun k => spec_rpText.l1 k (ofL (acc ++ bs l[i].f0)) l (l.length : Int) (i : Int) l[i].f1 (l[i].f1.length : Int) ((0 : Nat) : Int)) (fun k => ?_)
        (inner i l[i].f1 hrg (by omega) hil l[i].f1.length 0 (acc ++ bs l[i].f0) (by omega) (by rw [List.length_append]; omega) _ ?_)
      · rw [spec_rpText.l0, if_pos (by omega), if_pos (by omega), if_pos (by omega), hg, if_pos (by rw [ofL_size]; omega)]
        have e : ofL acc ++ l[i].f0 = ofL (acc ++ bs l[i].f0) := by
          apply bs_inj
          rw [bs_append, bs_ofL, bs_ofL]
        rw [e]
        rfl
      · rw [List.drop_zero, hi1]
        have h_ := ih (i + 1) (acc ++ bs l[i].f0 ++ numsL l[i].f1 ++ [10]) (by omega) (by simp only [List.length_append, List.length_cons, List.length_nil]; omega)
        have e : acc ++ ((l.drop i).map rowL).flatten = acc ++ bs l[i].f0 ++ numsL l[i].f1 ++ [10] ++ ((l.drop (i + 1)).map rowL).flatten := by
          rw [List.drop_eq_getElem_cons hil, List.map_cons, List.flatten_cons, rowL]
          simp only [List.append_assoc]
        rw [e]
        exact h_
  have hst := bs_size t
  have h_ := outer l.length 0 (headL t n) (by omega) (by simp only [headL, List.length_append, List.length_cons, List.length_nil]; omega)
  rw [List.drop_zero] at h_
  have hnn : n = ((n.toNat : Nat) : Int) := by omega
  have hnum := l1Num_ok n.toNat (by omega)
  rw [← hnn] at hnum
  have hit2 : Lib.itoa n = Lib.decDigits n.toNat := by rw [Lib.itoa, if_neg (by omega)]
  rw [← hit2] at hnum
  refine Ev.congr (f := fun k => (spec_l1Num.f k n).bind fun t131 => (if (((⟨#[114, 101, 112, 111, 114, 116, 32]⟩ : ByteArray) ++ t) ++ (⟨#[32]⟩ : ByteArray)).size + t131.size ≤ 9223372036854775807 then (if ((((⟨#[114, 101, 112, 111, 114, 116, 32]⟩ : ByteArray) ++ t) ++ (⟨#[32]⟩ : ByteArray)) ++ t131).size + 1 ≤ 9223372036854775807 then (spec_rpText.l0 k (((((⟨#[114, 101, 112, 111, 114, 116, 32]⟩ : ByteArray) ++ t) ++ (⟨#[32]⟩ : ByteArray)) ++ t131) ++ (⟨#[10]⟩ : ByteArray)) l (l.length : Int) 0) else none) else none)) (fun k => ?_) (Ev.bind hnum ?_)
  · have s1 : ((⟨#[114, 101, 112, 111, 114, 116, 32]⟩ : ByteArray) ++ t).size = 7 + t.size := by rw [bs_size, bs_append, List.length_append, ← bs_size t]; rfl
    rw [spec_rpText.f, if_pos (by omega), s1, if_pos (by omega)]
  · refine Ev.congr (fun k => ?_) h_
    have s2 : (((⟨#[114, 101, 112, 111, 114, 116, 32]⟩ : ByteArray) ++ t) ++ (⟨#[32]⟩ : ByteArray)).size = 7 + t.size + 1 := by rw [bs_size, bs_append, bs_append, List.length_append, List.length_append, ← bs_size t]; rfl
    have s3 : ((((⟨#[114, 101, 112, 111, 114, 116, 32]⟩ : ByteArray) ++ t) ++ (⟨#[32]⟩ : ByteArray)) ++ ofL (Lib.itoa n)).size = 7 + t.size + 1 + (Lib.itoa n).length := by rw [bs_size, bs_append, List.length_append, ← bs_size, s2, bs_ofL]
    have e : ((((⟨#[114, 101, 112, 111, 114, 116, 32]⟩ : ByteArray) ++ t) ++ (⟨#[32]⟩ : ByteArray)) ++ ofL (Lib.itoa n)) ++ (⟨#[10]⟩ : ByteArray) = ofL (headL t n) := by
      apply bs_inj
      rw [bs_append, bs_append, bs_append, bs_append, bs_ofL, bs_ofL, headL]
      rfl
    rw [s2, s3, e, ofL_size, if_pos (by omega), if_pos (by omega)]
    rfl
theorem reportText_ok : Ev (fun k => impl_reportText.f k t n l) (ofL (textL t n l)) := by
  have hw := hG.wide
  have hf := hG.few
  have htn := hG.title.n
  have hit := itoa_len n (by omega) (by omega)
  have outer : ∀ (d i : Nat) (acc : List UInt8), i + d = l.length → acc.length ≤ 30000000000 * i + 20000000000 → Ev (fun k => impl_reportText.l0 k (ofL acc) l (l.length : Int) (i : Int)) (ofL (acc ++ ((l.drop i).map rowL).flatten)) := by
    intro d
    induction d with
    | zero =>
      intro i acc h1 ha
      refine Ev.step (f := fun _ => some (ofL (acc ++ ((l.drop i).map rowL).flatten))) (fun k => ?_) (Ev.now _)
      rw [impl_reportText.l0, if_neg (by omega), List.drop_eq_nil_of_le (by omega)]
      simp
    | succ d ih =>
      intro i acc h1 ha
      have hil : i < l.length := by omega
      have hR := hG.rows i hil
      have hg := T43_get l i hil
      have hnm := hR.name.n
      have hln := hR.len
      have hrg := hR.rng
      rw [hg] at hnm hln hrg
      have hsz := bs_size l[i].f0
      have hnl := numsL_len l[i].f1 hrg.mem
      have hne : l[i].f1 ≠ [] := fun e_ => by rw [e_] at hln; simp at hln; omega
      have hj := join_nums l[i].f1 hne
      have hjl := congrArg List.length hj
      rw [List.length_cons] at hjl
      have hi1 : (i : Int) + 1 = ((i + 1 : Nat) : Int) := by omega
      have hnt := numbersText_ok l[i].f1 hrg (by omega) hne
      have h_ := ih (i + 1) (acc ++ rowL l[i]) (by omega) (by simp only [rowL, List.length_append, List.length_cons, List.length_nil]; omega)
      have e : acc ++ ((l.drop i).map rowL).flatten = acc ++ rowL l[i] ++ ((l.drop (i + 1)).map rowL).flatten := by
        rw [List.drop_eq_getElem_cons hil, List.map_cons, List.flatten_cons]
        simp only [List.append_assoc]
      rw [e]
      refine Ev.step (f := fun k => (impl_numbersText.f k l[i].f1).bind fun t198 => (if ((l[i].f0) ++ (⟨#[32]⟩ : ByteArray)).size + t198.size ≤ 9223372036854775807 then (if (((l[i].f0) ++ (⟨#[32]⟩ : ByteArray)) ++ t198).size + 1 ≤ 9223372036854775807 then (if (ofL acc).size + ((((l[i].f0) ++ (⟨#[32]⟩ : ByteArray)) ++ t198) ++ (⟨#[10]⟩ : ByteArray)).size ≤ 9223372036854775807 then (impl_reportText.l0 k ((ofL acc) ++ ((((l[i].f0) ++ (⟨#[32]⟩ : ByteArray)) ++ t198) ++ (⟨#[10]⟩ : ByteArray))) l (l.length : Int) ((i + 1 : Nat) : Int)) else none) else none) else none)) (fun k => ?_) (Ev.bind hnt ?_)
      · rw [impl_reportText.l0, if_pos (by omega), if_pos (by omega), if_pos (by omega), hg, if_pos (by omega), wrap_id (x := (i : Int) + 1) (by omega) (by omega), hi1]
      · refine Ev.congr (fun k => ?_) h_
        have s1 : ((l[i].f0) ++ (⟨#[32]⟩ : ByteArray)).size = l[i].f0.size + 1 := by rw [bs_size, bs_append, List.length_append, ← bs_size]; rfl
        have s2 : (((l[i].f0) ++ (⟨#[32]⟩ : ByteArray)) ++ ofL (Lib.join (l[i].f1.map Lib.itoa) [32])).size = l[i].f0.size + 1 + (Lib.join (l[i].f1.map Lib.itoa) [32]).length := by rw [bs_size, bs_append, List.length_append, ← bs_size, s1, bs_ofL]
        have s3 : ((((l[i].f0) ++ (⟨#[32]⟩ : ByteArray)) ++ ofL (Lib.join (l[i].f1.map Lib.itoa) [32])) ++ (⟨#[10]⟩ : ByteArray)).size = l[i].f0.size + 1 + (Lib.join (l[i].f1.map Lib.itoa) [32]).length + 1 := by rw [bs_size, bs_append, List.length_append, ← bs_size, s2]; rfl
        have e2 : ofL acc ++ ((((l[i].f0) ++ (⟨#[32]⟩ : ByteArray)) ++ ofL (Lib.join (l[i].f1.map Lib.itoa) [32])) ++ (⟨#[10]⟩ : ByteArray)) = ofL (acc ++ rowL l[i]) := by
          apply bs_inj
          rw [bs_append, bs_append, bs_append, bs_append, bs_ofL, bs_ofL, bs_ofL, rowL, ← hj]
          simp [bs]
        rw [s1, s2, s3, e2, ofL_size, ofL_size, if_pos (by omega), if_pos (by omega), if_pos (by omega)]
  have hst := bs_size t
  have h_ := outer l.length 0 (headL t n) (by omega) (by simp only [headL, List.length_append, List.length_cons, List.length_nil]; omega)
  rw [List.drop_zero] at h_
  refine Ev.congr (fun k => ?_) h_
  have s1 : ((⟨#[114, 101, 112, 111, 114, 116, 32]⟩ : ByteArray) ++ t).size = 7 + t.size := by rw [bs_size, bs_append, List.length_append, ← bs_size t]; rfl
  have s2 : (((⟨#[114, 101, 112, 111, 114, 116, 32]⟩ : ByteArray) ++ t) ++ (⟨#[32]⟩ : ByteArray)).size = 7 + t.size + 1 := by rw [bs_size, bs_append, bs_append, List.length_append, List.length_append, ← bs_size t]; rfl
  have s3 : ((((⟨#[114, 101, 112, 111, 114, 116, 32]⟩ : ByteArray) ++ t) ++ (⟨#[32]⟩ : ByteArray)) ++ ofL (Lib.itoa n)).size = 7 + t.size + 1 + (Lib.itoa n).length := by rw [bs_size, bs_append, List.length_append, ← bs_size, s2, bs_ofL]
  have e : ((((⟨#[114, 101, 112, 111, 114, 116, 32]⟩ : ByteArray) ++ t) ++ (⟨#[32]⟩ : ByteArray)) ++ ofL (Lib.itoa n)) ++ (⟨#[10]⟩ : ByteArray) = ofL (headL t n) := by
    apply bs_inj
    rw [bs_append, bs_append, bs_append, bs_append, bs_ofL, bs_ofL, headL]
    rfl
  rw [impl_reportText.f, if_pos (by omega), s1, if_pos (by omega), itoa_f n (by omega) (by omega), Option.bind_some, s2, s3, e, ofL_size, if_pos (by omega), if_pos (by omega)]
  rfl
end
end Go.Proofs.YtclpjlaielphfaaDoor.Pure
end
