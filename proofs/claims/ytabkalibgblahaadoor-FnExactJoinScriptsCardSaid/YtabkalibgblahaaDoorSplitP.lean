/- The reference's own parting of a text answers the pieces between a byte. -/
import Derived.Test.YtabkalibgblahaaDoorTxt
import Derived.Test.YtabkalibgblahaaDoorPAx1
namespace Go.Proofs.YtabkalibgblahaaDoor.PA
open Go.RowKit Go.Proofs.YtabkalibgblahaaDoorW.PrintWords Go.Proofs.YtabkalibgblahaaDoorW.PrintLast Go.Proofs.YtabkalibgblahaaDoor.Txt

theorem wrap_id {x : Int} (h : -9223372036854775808 ≤ x) (h' : x ≤ 9223372036854775807) : wrap64 x = x := by unfold wrap64; omega

theorem spec_l1Split_loop (s : ByteArray) (c : UInt8) (hs : s.size ≤ 1000000000000) : ∀ (d k : Nat) (out : List ByteArray) (a i : Nat), a ≤ i → i ≤ s.size → i + d = s.size → d < k → out.length + d ≤ 1000000000000 →
    spec_l1Split.l0 k s (c.toNat : Int) out a i = some (out ++ (pre ((s.data.toList.drop a).take (i - a)) (split c (s.data.toList.drop i))).map ofL) := by
  have hlen := Txt.data_length s
  intro d
  induction d with
  | zero =>
    intro k out a i ha hi hd hk ho
    obtain ⟨k, rfl⟩ : ∃ m, k = m + 1 := ⟨k - 1, by omega⟩
    simp only [spec_l1Split.l0]
    rw [if_neg (by omega), if_pos (by omega), if_pos (by omega), if_pos (by omega)]
    have h1 : s.data.toList.drop i = [] := List.drop_of_length_le (by omega)
    rw [h1, extract_ofL]
    simp only [split, pre, Int.toNat_natCast, List.append_nil, List.map_cons, List.map_nil]
    rw [show i = s.size by omega]
  | succ d ih =>
    intro k out a i ha hi hd hk ho
    obtain ⟨k, rfl⟩ : ∃ m, k = m + 1 := ⟨k - 1, by omega⟩
    have hw : wrap64 ((i : Int) + 1) = ((i + 1 : Nat) : Int) := by rw [wrap_id (by omega) (by omega)]; omega
    have hlt : i < s.data.toList.length := by omega
    have hdrop : s.data.toList.drop i = s.data.toList[i] :: s.data.toList.drop (i + 1) := List.drop_eq_getElem_cons hlt
    simp only [spec_l1Split.l0]
    rw [if_pos (by omega), if_pos (by omega), bt_data s i (by omega) (by omega), hw]
    simp only [Int.toNat_natCast]
    rw [hdrop, split]
    by_cases hb : s.data.toList[i] = c
    · rw [if_pos (toNat_eq.2 hb), if_pos (by omega), if_pos (by omega), if_pos (by omega), if_pos (by omega), if_pos hb]
      rw [ih k _ (i + 1) (i + 1) (Nat.le_refl _) (by omega) (by omega) (by omega) (by rw [List.length_append]; simp only [List.length_singleton]; omega)]
      rw [Nat.sub_self, List.take_zero, pre_nil (split_ne c _), extract_ofL]
      simp [pre]
    · rw [if_neg (fun h => hb (toNat_eq.1 h)), if_neg hb]
      rw [ih k _ a (i + 1) (by omega) (by omega) (by omega) (by omega) (by omega), pre_pre]
      have h3 : (s.data.toList.drop a).take (i + 1 - a) = (s.data.toList.drop a).take (i - a) ++ [s.data.toList[i]] := by
        rw [show i + 1 - a = (i - a) + 1 by omega, List.take_succ_eq_append_getElem (by rw [List.length_drop]; omega), List.getElem_drop]
        simp only [show a + (i - a) = i by omega]
      rw [h3]

theorem spec_l1Split_eq (s : ByteArray) (c : UInt8) (hs : s.size ≤ 1000000000000) (k : Nat) (hk : s.size < k) : spec_l1Split.f k s (c.toNat : Int) = some ((split c s.data.toList).map ofL) := by
  unfold spec_l1Split.f
  have h := spec_l1Split_loop s c hs s.size k [] 0 0 (Nat.le_refl _) (Nat.zero_le _) (by omega) hk (by simp; omega)
  simp only [Int.ofNat_zero, List.nil_append, Nat.sub_self, List.take_zero, List.drop_zero] at h
  rw [pre_nil (split_ne c _)] at h
  exact h
end Go.Proofs.YtabkalibgblahaaDoor.PA
