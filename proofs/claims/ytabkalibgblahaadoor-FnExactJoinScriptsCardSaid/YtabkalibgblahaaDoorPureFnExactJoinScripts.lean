/- The program joins two scripts exactly where the reference does, and answers their join: for any two texts. -/
import Derived.Test.YtabkalibgblahaaDoorPAx1
import Derived.Test.YtabkalibgblahaaDoorSplitP
namespace Go.Proofs.YtabkalibgblahaaDoor.Pure
open Go.RowKit Go.Proofs.YtabkalibgblahaaDoor.PA Go.Proofs.YtabkalibgblahaaDoorW.PrintWords Go.Proofs.YtabkalibgblahaaDoorW.PrintLast Go.Proofs.YtabkalibgblahaaDoor.Txt

theorem csLines_isScript (s : ByteArray) (hs : s.size ≤ 100000000) (k : Nat) (hk : s.size < k) :
    ∃ lines ok, spec_csLines.f k s = some (lines, ok) ∧ impl_isScript.f s = some ok := by
  have hlen := Txt.data_length s
  unfold spec_csLines.f impl_isScript.f
  by_cases hbig : (s.size : Int) > 2000
  · rw [if_pos hbig, if_pos hbig]
    exact ⟨_, _, rfl, rfl⟩
  · rw [if_neg hbig, if_neg hbig]
    unfold impl_linesOf.f
    have hsp := spec_l1Split_eq s 10 (by omega) k hk
    have h10 : ((10 : UInt8).toNat : Int) = 10 := rfl
    rw [h10] at hsp
    by_cases he : s.toList = []
    · rw [if_pos he, if_pos he, hsp]
      have hd : s.data.toList = [] := by rw [← Txt.toList_data]; exact he
      simp only [Option.bind_some, hd, split, List.map_cons, List.map_nil, List.length_cons, List.length_nil]
      have hw : wrap64 (((0 + 1 : Nat) : Int) - 1) = 0 := by rw [wrap_id (by omega) (by omega)]; omega
      simp only [hw]
      exact ⟨_, _, rfl, rfl⟩
    · rw [if_neg he, if_neg he]
      have hd : s.data.toList ≠ [] := by rw [← Txt.toList_data]; exact he
      have hpos : 0 < s.size := by
        rw [← hlen]
        exact List.length_pos_iff.2 hd
      have hw : wrap64 ((s.size : Int) - 1) = ((s.size - 1 : Nat) : Int) := by rw [wrap_id (by omega) (by omega)]; omega
      have hlast : s.data.toList = s.data.toList.take (s.size - 1) ++ [s.data.toList[s.size - 1]'(by omega)] := by
        have := List.take_succ_eq_append_getElem (l := s.data.toList) (i := s.size - 1) (by omega)
        rw [← this, show s.size - 1 + 1 = s.data.toList.length by omega, List.take_length]
      rw [hw, if_pos (by omega), if_pos (by omega), bt_data s _ (by omega) (by omega)]
      simp only [Int.toNat_natCast]
      have hsuf : strings_HasSuffix.f s (⟨#[10]⟩ : ByteArray) = some (decide (s.data.toList[s.size - 1]'(by omega) = 10)) := by
        unfold strings_HasSuffix.f stringslite_HasSuffix.f
        have hsz : (ByteArray.mk #[10]).size = 1 := rfl
        rw [hsz]
        have hw2 : wrap64 ((s.size : Int) - ((1 : Nat) : Int)) = ((s.size - 1 : Nat) : Int) := by rw [wrap_id (by omega) (by omega)]; omega
        rw [if_pos (by omega), hw2, if_pos (by omega), if_pos (by omega), Option.bind_some, Int.toNat_natCast, extract_ofL, ofL_toList, Txt.toList_data]
        congr 1
        have h4 : (s.data.toList.drop (s.size - 1)).take (s.size - (s.size - 1)) = [s.data.toList[s.size - 1]'(by omega)] := by
          rw [List.drop_eq_getElem_cons (by omega), show s.size - (s.size - 1) = 1 by omega]
          rfl
        rw [h4, Bool.eq_iff_iff]
        simp
      rw [hsuf, Option.bind_some]
      have hbool : (((s.data.toList[s.size - 1]'(by omega)).toNat : Int) = 10) ↔ s.data.toList[s.size - 1]'(by omega) = 10 := by
        rw [← h10]; exact toNat_eq
      by_cases hc : s.data.toList[s.size - 1]'(by omega) = 10
      · rw [if_pos (hbool.2 hc), if_pos (by simpa using hc), hsp]
        unfold strings_Split.f
        have hone : oneByte (⟨#[10]⟩ : ByteArray) = some 10 := rfl
        have hdat : (s.extract (0 : Int).toNat (s.size - 1)).data.toList = s.data.toList.take (s.size - 1) := by rw [extract_ofL]; rfl
        have hszx : (s.extract (0 : Int).toNat (s.size - 1)).size < 4294967281 := by
          rw [← Txt.data_length, hdat, List.length_take]; omega
        rw [if_pos (by omega), if_pos (by omega)]
        have hdat0 : (s.extract 0 (s.size - 1)).data.toList = s.data.toList.take (s.size - 1) := by rw [extract_ofL]; rfl
        have hszx0 : (s.extract 0 (s.size - 1)).size < 4294967281 := by
          rw [← Txt.data_length, hdat0, List.length_take]; omega
        simp only [hone, Option.bind_some, hdat0]
        rw [if_pos hszx0]
        have hsplit : split 10 s.data.toList = split 10 (s.data.toList.take (s.size - 1)) ++ [[]] := by
          conv => lhs; rw [hlast, hc]
          exact split_snoc 10 _
        rw [hsplit]
        have hcount := split_length 10 (s.data.toList.take (s.size - 1))
        have hcle := List.count_le_length (a := (10 : UInt8)) (l := s.data.toList.take (s.size - 1))
        rw [List.length_take] at hcle
        simp only [List.map_append, List.length_append, List.length_map, List.map_cons, List.map_nil, List.length_cons, List.length_nil, Option.bind_some]
        have hw3 : wrap64 ((((split 10 (s.data.toList.take (s.size - 1))).length + (0 + 1) : Nat) : Int) - 1) = ((split 10 (s.data.toList.take (s.size - 1))).length : Int) := by
          rw [wrap_id (by omega) (by omega)]; omega
        simp only [hw3]
        rw [if_pos (by omega), if_pos (by omega)]
        have htk : List.take ((split 10 (s.data.toList.take (s.size - 1))).length : Int).toNat ((split 10 (s.data.toList.take (s.size - 1))).map ofL ++ [ofL []]) = (split 10 (s.data.toList.take (s.size - 1))).map ofL := List.take_left' (by rw [List.length_map]; omega)
        simp only [htk]
        refine ⟨_, _, rfl, ?_⟩
        simp
      · rw [if_neg (fun h => hc (hbool.1 h)), if_neg (by simpa using hc)]
        exact ⟨_, _, rfl, rfl⟩

theorem FnExactJoinScripts : laws_FnExactJoinScripts.Pure := by
  intro a b ha hb
  refine ⟨a.size + b.size + 1, ?_⟩
  unfold laws_FnExactJoinScripts.f
  by_cases h1 : (a.size : Int) > 1048576
  · rw [if_pos h1]
  rw [if_neg h1]
  by_cases h2 : (b.size : Int) > 1048576
  · rw [if_pos h2]
  rw [if_neg h2]
  have hab : (a ++ b).size = a.size + b.size := by simp [ByteArray.size_append]
  obtain ⟨la, oa, ca, ia⟩ := csLines_isScript a (by omega) (a.size + b.size + 1) (by omega)
  obtain ⟨lb, ob, cb, ib⟩ := csLines_isScript b (by omega) (a.size + b.size + 1) (by omega)
  obtain ⟨lab, oab, cab, iab⟩ := csLines_isScript (a ++ b) (by omega) (a.size + b.size + 1) (by omega)
  unfold spec_JoinScripts.f impl_JoinScripts.f
  rw [ca, cb, ia]
  simp only [Option.bind_some]
  rw [if_pos (by omega), cab, ib, iab]
  simp only [Option.bind_some]
  have hsum : a.size + b.size ≤ 9223372036854775807 := by omega
  cases oa <;> cases ob <;> cases oab <;> simp [hsum]

end Go.Proofs.YtabkalibgblahaaDoor.Pure
