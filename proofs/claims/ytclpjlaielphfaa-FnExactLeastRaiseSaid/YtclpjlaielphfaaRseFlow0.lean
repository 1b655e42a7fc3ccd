/- Used by the claim's last text. -/
import Derived.Test.YtclpjlaielphfaaRseWMore
section
namespace Go.Proofs.Ytclpjlaielphfaa.Flow
open Go Go.RowKit Go.Proofs.YtclpjlaielphfaaW.PrintWords Go.Proofs.YtclpjlaielphfaaW.PrintLast Go.Proofs.YtclpjlaielphfaaW.PrintMore
set_option linter.unusedVariables false
def Arr {α : Type} (enc : α → Value) (e : Nat) (w : World) (b : Nat) (l : List α) : Prop :=
  ∃ cur, w.heap[b]? = some (.cells cur e (0, 0)) ∧ cur.toList.take l.length = l.map enc
abbrev IA (w : World) (b : Nat) (l : List Int) : Prop := Arr (Value.int .i64) 3 w b l
section
variable {α : Type} {enc : α → Value} {e : Nat} {w w1 : World} {b b' : Nat} {l : List α}
theorem Arr.lt (h : Arr enc e w b l) : b < w.heap.size := by
  obtain ⟨cur, h1, _⟩ := h
  exact (Array.getElem?_eq_some_iff.1 h1).1
theorem Arr.cell (h : Arr enc e w b l) (i : Nat) (hi : i < l.length) : w.cell? ⟨b, i, none⟩ = some (enc l[i]) := by
  obtain ⟨cur, h1, h2⟩ := h
  rw [cell_of_row w b i cur e (0, 0) h1]
  have h3 : (cur.toList.take l.length)[i]? = some (enc l[i]) := by rw [h2, List.getElem?_map, List.getElem?_eq_getElem hi]; rfl
  rw [List.getElem?_take, if_pos hi] at h3
  simpa using h3
theorem Arr.free (h : Arr enc e w b l) (i : Nat) : w.frozen? ⟨b, i, none⟩ = false := by
  obtain ⟨cur, h1, h2⟩ := h
  simp [World.frozen?, h1]
theorem Arr.move (h : Arr enc e w b l) (hm : w1.heap[b]? = w.heap[b]?) : Arr enc e w1 b l := by
  obtain ⟨cur, h1, h2⟩ := h
  exact ⟨cur, hm.trans h1, h2⟩
theorem Arr.far (h : Arr enc e w b l) (hb : b ≠ b') (j : Nat) (u : Value) : Arr enc e (w.setCell ⟨b', j, none⟩ u) b l := h.move (Below.heap_setCell w ⟨b', j, none⟩ u b hb)
theorem Arr.alloc (h : Arr enc e w b l) (o : Obj) : Arr enc e (w.alloc o) b l := h.move ((below_alloc (Below.refl w.heap.size w) o).block b h.lt)
theorem Arr.drewN (h : Arr enc e w b l) (n : Nat) : Arr enc e (w.drewN n) b l := h.move ((pw_below_drewN (Below.refl w.heap.size w) n).block b h.lt)
theorem Arr.drew (h : Arr enc e w b l) : Arr enc e w.drew b l := h.move ((below_drew (Below.refl w.heap.size w)).block b h.lt)
theorem Arr.below (h : Arr enc e w b l) (hb : Below w.heap.size w w1) : Arr enc e w1 b l := h.move (hb.block b h.lt)
theorem Arr.kept {S : Nat → Prop} (h : Arr enc e w b l) (hk : Kept w w1 S) (hb : ¬ S b) : Arr enc e w1 b l := h.move (hk.2 b h.lt hb)
theorem Arr.set (h : Arr enc e w b l) (i : Nat) (hi : i < l.length) (x : α) : Arr enc e (w.setCell ⟨b, i, none⟩ (enc x)) b (l.set i x) := by
  obtain ⟨cur, h1, h2⟩ := h
  refine ⟨cur.setIfInBounds i (enc x), ?_, ?_⟩
  · rw [setCell_eq_setRow w b i cur e (0, 0) (enc x) h1]
    exact setRow_heap w b cur _ e _ h1
  · rw [Array.toList_setIfInBounds, List.length_set, List.take_set, h2, List.map_set]
theorem Arr.le (h : Arr enc e w b l) : ∃ cur, w.heap[b]? = some (.cells cur e (0, 0)) ∧ l.length ≤ cur.size := by
  obtain ⟨cur, h1, h2⟩ := h
  refine ⟨cur, h1, ?_⟩
  have := congrArg List.length h2
  simp at this
  omega
theorem Arr.of_own {base n : Nat} {c : Nat} {xs : List Value} (h : w.ownsRow base e 1 (.slice (some ⟨b, 0, none⟩) n c) n xs) (hx : xs = l.map enc) : Arr enc e w b l := by
  subst hx
  have hl := h.1
  rcases h.2 with ⟨hv, _⟩ | ⟨g, cap, cur, hv, _, hh, _, _, _, ht⟩
  · cases hv
  · injection hv with ha _ _
    injection ha with ha
    injection ha with ha _ _
    subst ha
    rw [List.length_map] at hl
    refine ⟨cur, hh, ?_⟩
    rw [← ht, show l.length = n * 1 by omega]
theorem Arr.own (h : Arr enc e w b l) {base c : Nat} (hb : base ≤ b) (hc : ∃ cur, w.heap[b]? = some (.cells cur e (0, 0)) ∧ cur.size = c) (hlc : l.length ≤ c) (hm : c ≤ maxLen) : w.ownsRow base e 1 (.slice (some ⟨b, 0, none⟩) l.length c) l.length (l.map enc) := by
  obtain ⟨cur, h1, h2⟩ := h
  obtain ⟨cur', h3, h4⟩ := hc
  obtain rfl : cur = cur' := by rw [h1] at h3; injection h3 with h3; injection h3
  exact ⟨by simp, .inr ⟨b, c, cur, rfl, hb, h1, hlc, hm, by omega, by simpa using h2⟩⟩
theorem Arr.made (w : World) (cs : Array Value) (hc : cs.toList = l.map enc) : Arr enc e (w.alloc (.cells cs e)) w.heap.size l :=
  ⟨cs, heap_alloc_new w _, by rw [hc]; exact List.take_of_length_le (by simp)⟩
end
def ArrN {α : Type} (enc : α → Value) (e : Nat) (w : World) (b : Nat) (l : List α) : Prop :=
  ∃ cur, w.heap[b]? = some (.cells cur e (0, 0)) ∧ cur.toList = l.map enc
section
variable {α : Type} {enc : α → Value} {e : Nat} {w w1 : World} {b b' : Nat} {l : List α}
theorem ArrN.arr (h : ArrN enc e w b l) : Arr enc e w b l := by
  obtain ⟨cur, h1, h2⟩ := h
  exact ⟨cur, h1, by rw [h2]; exact List.take_of_length_le (by simp)⟩
theorem ArrN.lt (h : ArrN enc e w b l) : b < w.heap.size := h.arr.lt
theorem ArrN.move (h : ArrN enc e w b l) (hm : w1.heap[b]? = w.heap[b]?) : ArrN enc e w1 b l := by
  obtain ⟨cur, h1, h2⟩ := h
  exact ⟨cur, hm.trans h1, h2⟩
theorem ArrN.far (h : ArrN enc e w b l) (hb : b ≠ b') (j : Nat) (u : Value) : ArrN enc e (w.setCell ⟨b', j, none⟩ u) b l := h.move (Below.heap_setCell w ⟨b', j, none⟩ u b hb)
theorem ArrN.below (h : ArrN enc e w b l) (hb : Below w.heap.size w w1) : ArrN enc e w1 b l := h.move (hb.block b h.lt)
theorem ArrN.free (h : ArrN enc e w b l) (i : Nat) : w.frozen? ⟨b, i, none⟩ = false := h.arr.free i
theorem ArrN.set (h : ArrN enc e w b l) (i : Nat) (hi : i < l.length) (x : α) : ArrN enc e (w.setCell ⟨b, i, none⟩ (enc x)) b (l.set i x) := by
  obtain ⟨cur, h1, h2⟩ := h
  refine ⟨cur.setIfInBounds i (enc x), ?_, ?_⟩
  · rw [setCell_eq_setRow w b i cur e (0, 0) (enc x) h1]
    exact setRow_heap w b cur _ e _ h1
  · rw [Array.toList_setIfInBounds, h2, List.map_set]
theorem ArrN.size (h : ArrN enc e w b l) : ∃ cur, w.heap[b]? = some (.cells cur e (0, 0)) ∧ cur.size = l.length := by
  obtain ⟨cur, h1, h2⟩ := h
  exact ⟨cur, h1, by have := congrArg List.length h2; simpa using this⟩
end
theorem IA.at_ {w : World} {b : Nat} {l : List Int} (h : IA w b l) (i : Int) (h0 : 0 ≤ i) (h1 : i < (l.length : Int)) : w.cell? ⟨b, i.toNat, none⟩ = some (.int .i64 (rd l i)) := by
  rw [Arr.cell h i.toNat (by omega), rd, List.getD_eq_getElem?_getD, List.getElem?_eq_getElem (by omega), Option.getD_some]
def rdB (l : List Bool) (i : Int) : Bool := l.getD i.toNat false
theorem BA_at {e : Nat} {w : World} {b : Nat} {l : List Bool} (h : Arr Value.bool e w b l) (i : Int) (h0 : 0 ≤ i) (h1 : i < (l.length : Int)) : w.cell? ⟨b, i.toNat, none⟩ = some (.bool (rdB l i)) := by
  rw [Arr.cell h i.toNat (by omega), rdB, List.getD_eq_getElem?_getD, List.getElem?_eq_getElem (by omega), Option.getD_some]
theorem IA.F {w : World} {b : Nat} {l : List Int} (h : IA w b l) (hm : l.length ≤ 9223372036854775807) : Kd.F (Kd.int .i64) w (fun k => k = b) (some ⟨b, 0, none⟩) l.length l := by
  intro W' hW
  have h' : IA W' b l := h.move (hW b rfl h.lt)
  refine ⟨rfl, hm, fun _ => ⟨_, rfl, fun j p hj => ⟨[.int .i64 p], rfl, rfl, fun i u hu => ?_⟩⟩⟩
  obtain ⟨hjl, hjp⟩ := List.getElem?_eq_some_iff.1 hj
  have hi : i = 0 := by
    have := (List.getElem?_eq_some_iff.1 hu).1
    simpa using this
  subst hi
  simp only [List.getElem?_cons_zero, Option.some.injEq] at hu
  subst hu
  rw [add_plain]
  have := Arr.cell h' j hjl
  rw [hjp] at this
  simpa [Kd.int, Kd.scalar] using this
theorem F_int {w : World} {ok : Nat → Prop} {A : Option Addr} {n : Nat} {l : List Int} (h : Kd.F (Kd.int .i64) w ok A n l) (i : Int) (h0 : 0 ≤ i) (h1 : i < (l.length : Int)) :
    ∃ ad, A = some ad ∧ w.cell? (ad.add i.toNat) = some (.int .i64 (rd l i)) := by
  have hc := Kd.F_now h
  obtain ⟨ad, c, rfl, hcl, hK, hcc⟩ := Kd.C_get hc 0 i h0 (by have := hc.1; omega)
  have hK' : c = [Value.int .i64 (l.getD i.toNat 0)] := hK
  subst hK'
  refine ⟨ad, rfl, ?_⟩
  have := hcc 0 _ rfl
  simpa [Kd.int, Kd.scalar, rd] using this
theorem F_row {w : World} {ok : Nat → Prop} {A : Option Addr} {n : Nat} {l : List (List Int)} {e : Nat} (h : Kd.F (Kd.slice e (Kd.int .i64)) w ok A n l) (i : Int) (h0 : 0 ≤ i) (h1 : i < (l.length : Int)) :
    ∃ ad B c, A = some ad ∧ w.cell? (ad.add i.toNat) = some (.slice B (l.getD i.toNat []).length c) ∧ (l.getD i.toNat []).length ≤ c ∧ Kd.F (Kd.int .i64) w ok B (l.getD i.toNat []).length (l.getD i.toNat []) := by
  have hl := (Kd.F_now h).1
  obtain ⟨ad, c, rfl, hcl, hK, hcc, _⟩ := Kd.F_get h [] i h0 (by omega)
  obtain ⟨B, cc, hc, hlc, hr⟩ := Kd.FK_now hK
  subst hc
  refine ⟨ad, B, cc, rfl, ?_, hlc, fun W' hW => ?_⟩
  · have := hcc 0 _ rfl
    simpa [Kd.slice] using this
  · obtain ⟨B', cc', hc', _, hr'⟩ := hK W' hW
    injection hc' with hc' _
    injection hc' with hB _ hcc'
    subst hB
    exact hr'
end Go.Proofs.Ytclpjlaielphfaa.Flow
end
