/- Used by the claim's last text. -/
import Derived.Test.YtclpjlaielphfaaDoorRepPTx0
import Derived.Test.YtclpjlaielphfaaDoorRepShelf
import Derived.Lib.AppendIntMem
section
namespace Go.Proofs.YtclpjlaielphfaaDoor.PT
open Go Go.RowKit Go.Proofs.YtclpjlaielphfaaDoorW.PrintWords Go.Proofs.YtclpjlaielphfaaDoorW.PrintLast Go.Proofs.YtclpjlaielphfaaDoorW.PrintMore
set_option linter.unusedVariables false
abbrev TabW (w : World) : Prop := Lib.TabIs Tryd.prog w "internal/strconv.uint64pow10" .u64 Lib.pow10Tab
theorem TabW.below {w w1 : World} (h : TabW w) (hb : Below w.heap.size w w1) : TabW w1 := Lib.tabBelow_of_tabIs h w1 hb
def strconv_Itoa.f (a0 : Int) : Option ByteArray := if -9223372036854775808 ≤ a0 ∧ a0 ≤ 9223372036854775807 then some ⟨(Lib.itoa a0).toArray⟩ else none
theorem strconv_Itoa.calls (a0 : Int) (r : ByteArray) (w : World) (hT0 : TabW w) (h : strconv_Itoa.f a0 = some r) :
    Calls Tryd.prog 27 #[.int .i64 a0] w fun e w' => e = .returned (.string r) ∧ Below w.heap.size w w' := by
  unfold strconv_Itoa.f at h
  by_cases ha : -9223372036854775808 ≤ a0 ∧ a0 ≤ 9223372036854775807
  · rw [if_pos ha] at h
    obtain rfl := Option.some.inj h
    refine (Tryd.strconv_Itoa a0 ha.1 ha.2 w hT0).mono ?_
    rintro e w' ⟨he, k, os, hw⟩
    refine ⟨he, ?_⟩
    rw [hw]
    exact Lib.below_grow _ w (Nat.le_refl _) k os
  · rw [if_neg ha] at h
    cases h
def joinB (l : List ByteArray) (s : ByteArray) : List UInt8 := Lib.join (l.map (·.data.toList)) s.data.toList
def strings_Join.f (l0 : List ByteArray) (a1 : ByteArray) : Option ByteArray := if l0.length ≤ 1000000 ∧ (joinB l0 a1).length ≤ 100000000000000 then some ⟨(joinB l0 a1).toArray⟩ else none
theorem strings_Join.calls (A0 : Option Addr) (c0 : Nat) (l0 : List ByteArray) (a1 : ByteArray) (r : ByteArray) (w : World) (hr0 : Kd.C Kd.string w A0 l0.length l0) (hc0 : l0.length ≤ c0) (hA0 : l0 ≠ [] → ∃ g o, A0 = some ⟨g, o, none⟩) (h : strings_Join.f l0 a1 = some r) :
    Calls Tryd.prog 33 #[.slice A0 l0.length c0, .string a1] w fun e w' => e = .returned (.string r) ∧ Below w.heap.size w w' := by
  unfold strings_Join.f at h
  by_cases ha : l0.length ≤ 1000000 ∧ (joinB l0 a1).length ≤ 100000000000000
  · rw [if_pos ha] at h
    obtain rfl := Option.some.inj h
    by_cases hl : l0 = []
    · subst hl
      refine (Tryd.strings_Join_none A0 c0 a1 w).mono ?_
      rintro e w' ⟨he, rfl⟩
      exact ⟨he, Below.refl _ _⟩
    · obtain ⟨g, o, rfl⟩ := hA0 hl
      have hcell : ∀ (j : Nat) x, l0[j]? = some x → w.cell? ⟨g, o + j, none⟩ = some (.string x) := fun j x hx => by
        obtain ⟨_, _, h3⟩ := hr0
        obtain ⟨ad, e1, h4⟩ := h3 (List.length_pos_iff.2 hl)
        obtain rfl : (⟨g, o, none⟩ : Addr) = ad := Option.some.inj e1
        obtain ⟨c, h5, h6, h7⟩ := h4 j x hx
        have h6' : c = [.string x] := h6
        subst h6'
        have h8 := h7 0 _ rfl
        have h9 : (⟨g, o, none⟩ : Addr).add (j * 1 + 0) = ⟨g, o + j, none⟩ := by rw [Nat.mul_one, Nat.add_zero]; simp [Addr.add]
        have h10 : (⟨g, o, none⟩ : Addr).add (j * Kd.string.sz + 0) = ⟨g, o + j, none⟩ := h9
        rw [h10] at h8
        exact h8
      have hbk : g < w.heap.size := by
        cases l0 with
        | nil => exact absurd rfl hl
        | cons x xs => exact World.block_lt_of_cell? w _ (hcell 0 x rfl)
      refine (Tryd.strings_Join g o c0 l0 a1 w hcell hbk (by omega) hc0 (by have := ha.2; unfold joinB at this; omega)).mono ?_
      rintro e w' ⟨he, hb⟩
      exact ⟨he, hb⟩
  · rw [if_neg ha] at h
    cases h
end Go.Proofs.YtclpjlaielphfaaDoor.PT
end
