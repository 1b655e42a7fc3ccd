/- The library's Split at a pattern of one byte answers the pieces of the text between that byte, for texts shorter than 4294967281 bytes. -/
import Derived.Test.YtabkalibgblahaaDoorPAx0
import Derived.Test.YtabkalibgblahaaDoorTxt
import Derived.Test.YtabkalibgblahaaDoorShelf
import Derived.Lib.IndexBytes
import Derived.Lib.SplitLaws
namespace Go.Proofs.YtabkalibgblahaaDoor.PA
open Go Go.RowKit Go.Proofs.YtabkalibgblahaaDoorW.PrintWords Go.Proofs.YtabkalibgblahaaDoorW.PrintLast Go.Proofs.YtabkalibgblahaaDoorW.PrintMore

def oneByte (a : ByteArray) : Option UInt8 := match a.data.toList with
  | [c] => some c
  | _ => none
theorem oneByte_eq {a : ByteArray} {c : UInt8} (h : oneByte a = some c) : a = ⟨#[c]⟩ := by
  obtain ⟨⟨l⟩⟩ := a
  unfold oneByte at h
  simp only at h
  match l, h with
  | [x], h => simp only [Option.some.injEq] at h; rw [h]
/-- A new block of one-cell elements is a row of the call's own. -/
theorem R_block {α : Type} {enc : α → Value} {h1 : ∀ x, (enc x).oneCell' = true} (w : World) (e : Nat) (xs : List α) (hm : xs.length ≤ 9223372036854775807) :
    (Kd.scalar enc h1).R e (w.alloc (.cells (xs.map enc).toArray e)) w.heap.size (fun _ => True) (.slice (some ⟨w.heap.size, 0, none⟩) xs.length xs.length) xs := by
  refine ⟨fun _ _ => trivial, xs.map enc, ?_, ?_⟩
  · have h2 := World.ownsRow_lit (base := w.heap.size) (e := e) (size := 1) w (xs.map enc).toArray xs.length (Nat.le_refl _) (by simpa [maxLen] using hm) (by simp)
    simpa [Kd.scalar] using h2
  · refine ⟨by simp [Kd.scalar], fun j p hj => ?_⟩
    obtain ⟨hl, hp⟩ := List.getElem?_eq_some_iff.1 hj
    simp only [Kd.scalar, Nat.mul_one]
    rw [List.drop_eq_getElem_cons (by simpa using hl)]
    simp [hp]
theorem splitK_one (c : UInt8) : ∀ (n : Nat) (l : List UInt8), l.count c = n → Lib.splitK [c] 0 n l = Txt.split c l := by
  intro n
  induction n with
  | zero =>
    intro l h
    rw [Txt.split_none h]
    rfl
  | succ n ih =>
    intro l h
    have hge := Lib.indexByte_ge l c
    have hi := Lib.index_one l c
    by_cases hn : Lib.indexByte l c = -1
    · exfalso
      have h2 := Lib.indexByte_none hn
      have h3 : c ∈ l := List.count_pos_iff.1 (by omega)
      obtain ⟨k, hk, he⟩ := List.getElem_of_mem h3
      exact h2 k (by rw [List.getElem?_eq_getElem hk, he])
    · obtain ⟨o, ho⟩ : ∃ o : Nat, Lib.indexByte l c = o := ⟨(Lib.indexByte l c).toNat, by omega⟩
      obtain ⟨h2, h3⟩ := Lib.indexByte_some ho
      have hlt := (List.getElem?_eq_some_iff.1 h2).1
      rw [Txt.split_first h2 h3, Lib.splitK, hi, ho, if_neg (by simp only [beq_iff_eq]; omega)]
      simp only [Int.toNat_natCast, Nat.add_zero, List.length_singleton]
      rw [ih]
      have h4 : l.count c = (l.take o).count c + (l.drop o).count c := by rw [← List.count_append, List.take_append_drop]
      have h5 : (l.take o).count c = 0 := by
        rw [List.count_eq_zero]
        intro hm
        obtain ⟨k, hk, he⟩ := List.getElem_of_mem hm
        rw [List.length_take] at hk
        refine h3 k (by omega) ?_
        rw [List.getElem_take] at he
        rw [List.getElem?_eq_getElem (by omega), he]
      have h6 : l.drop o = c :: l.drop (o + 1) := by
        rw [List.drop_eq_getElem_cons hlt]
        have : l[o] = c := by
          rw [List.getElem?_eq_getElem hlt] at h2
          simpa using h2
        rw [this]
      rw [h6, List.count_cons_self] at h4
      omega
theorem splitB_one (c : UInt8) (s : ByteArray) : Lib.splitB ⟨#[c]⟩ 0 (s.data.toList.count c) s = (Txt.split c s.data.toList).map Txt.ofL := by
  have h := Lib.splitB_data ⟨#[c]⟩ 0 (s.data.toList.count c) s
  have h2 : (ByteArray.mk #[c]).data.toList = [c] := rfl
  rw [h2, splitK_one c _ _ rfl] at h
  rw [← h, List.map_map]
  exact (List.map_id' _).symm

def strings_Split.f (a0 a1 : ByteArray) : Option (List ByteArray) := (oneByte a1).bind fun c => if a0.size < 4294967281 then some ((Txt.split c a0.data.toList).map Txt.ofL) else none

set_option maxHeartbeats 2000000 in
theorem strings_Split.calls (a0 : ByteArray) (a1 : ByteArray) (r : List ByteArray) (w : World) (h : strings_Split.f a0 a1 = some r) :
    Calls Tryd.prog 11 #[.string a0, .string a1] w fun e w' => ∃ v0_ : Value, e = .returned (v0_) ∧ Kd.R Kd.string 9 w' w.heap.size (fun _ => True) v0_ r ∧ Below w.heap.size w w' := by
  obtain ⟨c, hc, h4⟩ := Option.bind_eq_some_iff.1 h
  clear h
  obtain rfl := oneByte_eq hc
  by_cases hs : a0.size < 4294967281
  · rw [if_pos hs] at h4
    obtain rfl := Option.some.inj h4
    clear h4 hc
    have hcount : Lib.countB a0 ⟨#[c]⟩ = a0.data.toList.count c := by
      show Lib.count a0.data.toList [c] = _
      exact Lib.count_one c _
    have hcle : a0.data.toList.count c ≤ a0.size := by
      have := List.count_le_length (a := c) (l := a0.data.toList)
      rw [Array.length_toList] at this
      exact this
    have hlen : ((Txt.split c a0.data.toList).map Txt.ofL).length = a0.data.toList.count c + 1 := by rw [List.length_map, Txt.split_length]
    have core := Any.strings_genSplit_core Tryd.lays221 (by kernel_rfl) a0 ⟨#[c]⟩ 0 (-1) (a0.data.toList.count c + 1) w hs (Nat.le_refl 1) (Nat.zero_le _)
      (fun x cc hx => (Tryd.strings_Index_one x c _).mono fun e w' ⟨he, hw⟩ => ⟨by rw [he]; show _ = Ending.returned (Value.int .i64 (Lib.index x.data.toList [c])); rw [Lib.index_one], hw⟩)
      ((Tryd.strings_Count_one a0 c w).mono fun e w' ⟨he, hw⟩ => ⟨by rw [he, hcount]; rfl, hw⟩)
      (by decide) (by decide) (by rw [if_pos (by decide), hcount]; omega)
    rw [Nat.add_sub_cancel, splitB_one, hlen] at core
    have e2 : Lib.cellsOf ((Txt.split c a0.data.toList).map Txt.ofL) (a0.data.toList.count c + 1) = (((Txt.split c a0.data.toList).map Txt.ofL).map Value.string).toArray := by rw [← hlen]; exact Lib.cellsOf_full _
    rw [e2] at core
    have hr := R_block (enc := Value.string) (h1 := fun _ => rfl) w 9 ((Txt.split c a0.data.toList).map Txt.ofL) (by rw [hlen]; omega)
    rw [hlen] at hr
    have HR := Aside0.mk hr
    clear hlen hcount hcle e2 hr
    generalize (Txt.split c a0.data.toList).map Txt.ofL = xs at *
    generalize a0.data.toList.count c = m at *
    go_enter Tryd.func11, Tryd.ntmps11
    go_wp2_with (go_at_call 13; refine core.mono ?_; rintro e w' ⟨rfl, rfl⟩)
    go_ret
    exact ⟨_, rfl, HR.out, below_alloc (Below.refl _ _) _⟩
  · rw [if_neg hs] at h4
    cases h4
end Go.Proofs.YtabkalibgblahaaDoor.PA
