/- The digest of the program is that of the reference: both fold one step over the string's bytes and then 3 and 1; strings longer than 8000 bytes have none. -/
import Derived.Test.YtabkalibgblahaaPAx1
namespace Go.Proofs.Ytabkalibgblahaa.Pure
open Go.RowKit Go.Proofs.Ytabkalibgblahaa.PA Go.Proofs.YtabkalibgblahaaW.PrintWords Go.Proofs.YtabkalibgblahaaW.PrintLast

theorem w3 : wrap64 3 = 3 := by unfold wrap64; omega
theorem w1 : wrap64 1 = 1 := by unfold wrap64; omega

theorem rd_tail (s : ByteArray) (i : Int) (h0 : 0 ≤ i) (h1 : i < (s.size : Int) + 2) :
    (bytesOf s ++ [(3 : Int), 1]).drop i.toNat = (if i < (s.size : Int) then bt s i else if i > (s.size : Int) then 1 else 3) :: (bytesOf s ++ [(3 : Int), 1]).drop (i + 1).toNat := by
  have hl : (bytesOf s ++ [(3 : Int), 1]).length = s.size + 2 := by rw [List.length_append, bytesOf_length]; rfl
  rw [show (i + 1).toNat = i.toNat + 1 by omega, List.drop_eq_getElem_cons (by omega)]
  congr 1
  by_cases hi : i < (s.size : Int)
  · rw [if_pos hi, List.getElem_append_left (by rw [bytesOf_length]; omega), ← rd_bytesOf, rd, List.getD_eq_getElem?_getD, List.getElem?_eq_getElem (by rw [bytesOf_length]; omega), Option.getD_some]
  · rw [if_neg hi, List.getElem_append_right (by rw [bytesOf_length]; omega)]
    by_cases hj : i > (s.size : Int)
    · rw [if_pos hj]
      have : i.toNat - (bytesOf s).length = 1 := by rw [bytesOf_length]; omega
      simp only [this]
      rfl
    · rw [if_neg hj]
      have : i.toNat - (bytesOf s).length = 0 := by rw [bytesOf_length]; omega
      simp only [this]
      rfl

theorem spec_loop (s : ByteArray) (hs : s.size ≤ 8000) : ∀ (d k : Nat) (x i : Int), 0 ≤ i → i + d = (s.size : Int) + 2 → d < k →
    spec_rpDigest.l0 k s x i = some (((bytesOf s ++ [(3 : Int), 1]).drop i.toNat).foldl digStep x) := by
  have hl : (bytesOf s ++ [(3 : Int), 1]).length = s.size + 2 := by rw [List.length_append, bytesOf_length]; rfl
  have hw : wrap64 ((s.size : Int) + 2) = (s.size : Int) + 2 := by unfold wrap64; omega
  intro d
  induction d with
  | zero =>
    intro k x i h0 h1 hk
    obtain ⟨k, rfl⟩ : ∃ m, k = m + 1 := ⟨k - 1, by omega⟩
    simp only [spec_rpDigest.l0]
    rw [hw, if_neg (by omega), List.drop_of_length_le (by omega)]
    rfl
  | succ d ih =>
    intro k x i h0 h1 hk
    obtain ⟨k, rfl⟩ : ∃ m, k = m + 1 := ⟨k - 1, by omega⟩
    have hi : wrap64 (i + 1) = i + 1 := by unfold wrap64; omega
    rw [rd_tail s i h0 (by omega), List.foldl_cons]
    simp only [spec_rpDigest.l0]
    rw [hw, if_pos (by omega)]
    by_cases hlt : i < (s.size : Int)
    · rw [if_pos hlt, if_pos h0, if_pos hlt, hi]
      exact ih k _ (i + 1) (by omega) (by omega) (by omega)
    · rw [if_neg hlt, if_neg hlt]
      by_cases hgt : i > (s.size : Int)
      · rw [if_pos hgt, if_pos hgt, hi, ih k _ (i + 1) (by omega) (by omega) (by omega), digStep, w1]
      · rw [if_neg hgt, if_neg hgt, hi, ih k _ (i + 1) (by omega) (by omega) (by omega), digStep, w3]

theorem FnExactDigestOf : laws_FnExactDigestOf.Pure := by
  intro s hn
  refine ⟨s.size + 3, ?_⟩
  unfold laws_FnExactDigestOf.f
  by_cases hb : (s.size : Int) > 1048576
  · rw [if_pos hb]
  · rw [if_neg hb]
    unfold spec_DigestOf.f spec_rpLong.f impl_DigestOf.f
    simp only [Option.bind_some]
    by_cases hs : s.size ≤ 8000
    · rw [if_pos (by simp; omega), if_neg (by omega)]
      unfold spec_rpDigest.f impl_digestOf.f
      rw [spec_loop s hs (s.size + 2) (s.size + 3) _ 0 (by omega) (by omega) (by omega), if_pos hs]
      simp
    · rw [if_neg (by simp; omega), if_pos (by omega)]
      simp

end Go.Proofs.Ytabkalibgblahaa.Pure
