/- Plain lists of bytes: a text parted at a byte; what ByteArray's own words are on lists. No program in sight. -/
import Derived.Test.YtabkalibgblahaaDoorWWords
import Derived.Lib.IndexLaws
namespace Go.Proofs.YtabkalibgblahaaDoor.Txt
open Go Go.Proofs.YtabkalibgblahaaDoorW.PrintWords
set_option linter.unusedVariables false

def ofL (l : List UInt8) : ByteArray := ⟨l.toArray⟩
def pre (seg : List UInt8) : List (List UInt8) → List (List UInt8)
  | [] => [seg]
  | h :: t => (seg ++ h) :: t
/-- A text parted at each c. -/
def split (c : UInt8) : List UInt8 → List (List UInt8)
  | [] => [[]]
  | b :: l => if b = c then [] :: split c l else pre [b] (split c l)
theorem split_ne (c : UInt8) (l : List UInt8) : split c l ≠ [] := by
  cases l with
  | nil => simp [split]
  | cons b l =>
    unfold split
    split
    · simp
    · unfold pre; split <;> simp
theorem pre_nil {x : List (List UInt8)} (h : x ≠ []) : pre [] x = x := by
  cases x with
  | nil => exact absurd rfl h
  | cons a t => rfl
theorem pre_pre (a b : List UInt8) (x : List (List UInt8)) : pre a (pre b x) = pre (a ++ b) x := by
  cases x with
  | nil => rfl
  | cons h t => simp [pre]
theorem pre_length (a : List UInt8) {x : List (List UInt8)} (h : x ≠ []) : (pre a x).length = x.length := by
  cases x with
  | nil => exact absurd rfl h
  | cons h t => rfl
theorem split_length (c : UInt8) (l : List UInt8) : (split c l).length = l.count c + 1 := by
  induction l with
  | nil => rfl
  | cons b l ih =>
    unfold split
    split
    · rename_i h
      subst h
      simp [ih]
    · rename_i h
      rw [pre_length _ (split_ne c l), ih, List.count_cons_of_ne (by simpa using h)]
theorem split_none {c : UInt8} {l : List UInt8} (h : l.count c = 0) : split c l = [l] := by
  induction l with
  | nil => rfl
  | cons b l ih =>
    have hb : b ≠ c := by
      rintro rfl
      simp at h
    rw [List.count_cons_of_ne (by simpa using hb)] at h
    unfold split
    rw [if_neg hb, ih h]
    rfl
/-- The first piece ends at the first c. -/
theorem split_first {c : UInt8} : ∀ {l : List UInt8} {o : Nat}, l[o]? = some c → (∀ k, k < o → l[k]? ≠ some c) → split c l = l.take o :: split c (l.drop (o + 1))
  | [], o, h, _ => by simp at h
  | b :: l, 0, h, _ => by
    have hb : b = c := by simpa using h
    rw [split, if_pos hb]
    rfl
  | b :: l, o + 1, h, hk => by
    have hb : b ≠ c := by
      rintro rfl
      exact hk 0 (by omega) (by simp)
    have ih := split_first (l := l) (o := o) (by simpa using h) (fun k h2 h3 => hk (k + 1) (by omega) (by simpa using h3))
    rw [split, if_neg hb, ih]
    rfl
theorem split_snoc (c : UInt8) (l : List UInt8) : split c (l ++ [c]) = split c l ++ [[]] := by
  induction l with
  | nil => simp [split]
  | cons b l ih =>
    rw [List.cons_append, split, split]
    split
    · rw [ih]; rfl
    · rw [ih]
      have h := split_ne c l
      cases hx : split c l with
      | nil => exact absurd hx h
      | cons a t => rfl
theorem data_length (s : ByteArray) : s.data.toList.length = s.size := by rw [Array.length_toList]; rfl
theorem ofL_data (l : List UInt8) : (ofL l).data.toList = l := rfl
theorem ofL_size (l : List UInt8) : (ofL l).size = l.length := by rw [← data_length]; rfl
theorem ofL_self (s : ByteArray) : ofL s.data.toList = s := rfl
theorem toList_data (s : ByteArray) : s.toList = s.data.toList := ByteArray.toList_eq s
theorem ofL_toList (l : List UInt8) : (ofL l).toList = l := by rw [toList_data]; rfl
theorem extract_ofL (s : ByteArray) (a b : Nat) : s.extract a b = ofL ((s.data.toList.drop a).take (b - a)) := by
  apply ByteArray.ext
  apply Array.toList_inj.1
  rw [ByteArray.data_extract, Array.toList_extract, ofL_data]
theorem append_ofL (s t : ByteArray) : s ++ t = ofL (s.data.toList ++ t.data.toList) := by
  apply ByteArray.ext
  apply Array.toList_inj.1
  rw [ByteArray.data_append, Array.toList_append, ofL_data]
theorem bt_ofL (l : List UInt8) (i : Int) (h0 : 0 ≤ i) (h : i < (l.length : Int)) : bt (ofL l) i = ((l[i.toNat]'(by omega)).toNat : Int) := by
  unfold bt
  rw [dif_pos (by rw [ofL_size]; omega)]
  rfl
theorem bt_data (s : ByteArray) (i : Int) (h0 : 0 ≤ i) (h : i < (s.size : Int)) : bt s i = ((s.data.toList[i.toNat]'(by rw [data_length]; omega)).toNat : Int) := by
  unfold bt
  rw [dif_pos (by omega)]
  rfl
theorem toNat_eq {a b : UInt8} : ((a.toNat : Int) = (b.toNat : Int)) ↔ a = b := by
  constructor
  · intro h
    exact UInt8.toNat_inj.1 (by omega)
  · rintro rfl
    rfl
end Go.Proofs.YtabkalibgblahaaDoor.Txt
