/- Used by the claim's last text. -/
import Derived.Test.YtclpjlaielphfaaRseFlow2
import Derived.Test.YtclpjlaielphfaaRseFlow4
import Derived.Deep.RegionHeld3
section
namespace Go.Proofs.Ytclpjlaielphfaa.Flow
open Go Go.RowKit Go.Proofs.YtclpjlaielphfaaW.PrintWords Go.Proofs.YtclpjlaielphfaaW.PrintLast Go.Proofs.YtclpjlaielphfaaW.PrintMore
set_option linter.unusedVariables false
set_option linter.unusedSimpArgs false
theorem LA.F {w : World} {AL : Option Addr} {bL : Nat} {left : List Int} (h : LA w AL bL left) (hm : left.length ≤ 9223372036854775807) : Kd.F (Kd.int .i64) w (fun k => k = bL) AL left.length left := by
  rcases h with h | ⟨h1, h2⟩
  · subst h
    intro W' hW
    exact ⟨rfl, by simp, fun h => by simp at h⟩
  · subst h1
    exact h2.F hm
structure RunInv (w w' : World) (g bE cE : Nat) (AT AL : Option Addr) (cT cL bL : Nat) (E : List (List Int)) (tt left : List Int) (m : Nat) (ok : Nat → Prop) (vV vN : Value) : Prop where
  hg : w'.heap[g]? = some (.cells (resCells E tt left bE cE AT AL cT cL vV vN) 172 (0, 0))
  fE : Kd.F (Kd.slice 3 (Kd.int .i64)) w' ok (some ⟨bE, 0, none⟩) E.length E
  fT : Kd.F (Kd.int .i64) w' ok AT tt.length tt
  hL : LA w' AL bL left
  lL : left.length = m
  mm : m ≤ 9223372036854775807
  hb : m = 0 ∨ (bL < w.heap.size ∧ bL ≠ g ∧ ∀ b, ok b → b ≠ bL)
  hok : ∀ b, ok b → b < w.heap.size ∧ b ≠ g
  glt : g < w.heap.size
  mov : Mov w w' (fun b => b = g ∨ b = bL)
namespace RunInv
variable {w w' w2 : World} {g bE cE : Nat} {AT AL : Option Addr} {cT cL bL : Nat} {E : List (List Int)} {tt left : List Int} {m : Nat} {ok : Nat → Prop} {vV vN : Value}
theorem later (h : RunInv w w' g bE cE AT AL cT cL bL E tt left m ok vV vN) (hb : Below w'.heap.size w' w2) : RunInv w w2 g bE cE AT AL cT cL bL E tt left m ok vV vN where
  hg := blk_below' h.hg hb
  fE := Kd.F_below h.fE hb
  fT := Kd.F_below h.fT hb
  hL := h.hL.move (fun hlt => hb.block bL hlt)
  lL := h.lL
  mm := h.mm
  hb := h.hb
  hok := h.hok
  glt := h.glt
  mov := h.mov.trans (Mov.of_below hb (fun _ => False)) (fun _ hk => hk.elim)
theorem levelled (h : RunInv w w' g bE cE AT AL cT cL bL E tt left m ok vV vN) {vV2 : Value} (hg : w2.heap[g]? = some (.cells (resCells E tt left bE cE AT AL cT cL vV2 vN) 172 (0, 0))) (hm : Mov w' w2 (fun b => b = g)) : RunInv w w2 g bE cE AT AL cT cL bL E tt left m ok vV2 vN where
  hg := hg
  fE := Kd.F_kept h.fE hm.kept (fun k hk => (h.hok k hk).2)
  fT := Kd.F_kept h.fT hm.kept (fun k hk => (h.hok k hk).2)
  hL := by
    rcases h.hb with h0 | h0
    · exact .inl (List.length_eq_zero_iff.1 (by rw [h.lL]; exact h0))
    · exact h.hL.move (fun hlt => hm.kept.2 bL hlt h0.2.1)
  lL := h.lL
  mm := h.mm
  hb := h.hb
  hok := h.hok
  glt := h.glt
  mov := h.mov.trans hm (fun k hk => .inl (.inl hk))
theorem nexts (h : RunInv w w' g bE cE AT AL cT cL bL E tt left m ok vV vN) (u : Value) : RunInv w (w'.setCell ⟨g, 4, none⟩ u) g bE cE AT AL cT cL bL E tt left m ok vV u := by
  have hm : Mov w' (w'.setCell ⟨g, 4, none⟩ u) (fun b => b = g) := (Mov.refl w' _).setCell g 4 u (.inl rfl)
  have h2 := blk_set h.hg 4 u
  exact {
    hg := h2
    fE := Kd.F_kept h.fE hm.kept (fun k hk => (h.hok k hk).2)
    fT := Kd.F_kept h.fT hm.kept (fun k hk => (h.hok k hk).2)
    hL := by
      rcases h.hb with h0 | h0
      · exact .inl (List.length_eq_zero_iff.1 (by rw [h.lL]; exact h0))
      · exact h.hL.move (fun hlt => hm.kept.2 bL hlt h0.2.1)
    lL := h.lL
    mm := h.mm
    hb := h.hb
    hok := h.hok
    glt := h.glt
    mov := h.mov.trans hm (fun k hk => .inl (.inl hk)) }
end RunInv
structure PhInv (w w' : World) (g bE cE : Nat) (AT AL : Option Addr) (cT cL bL : Nat) (E : List (List Int)) (tt left : List Int) (m : Nat) (ok : Nat → Prop) (bV bN : Nat) (V next : List Int) : Prop where
  run : RunInv w w' g bE cE AT AL cT cL bL E tt left m ok (.slice (some ⟨bV, 0, none⟩) E.length E.length) (.slice (some ⟨bN, 0, none⟩) E.length E.length)
  hV : IA w' bV V
  hN : IA w' bN next
  lV : V.length = E.length
  lN : next.length = E.length
  gbV : w.heap.size ≤ bV
  gbN : w.heap.size ≤ bN
  ne : bV ≠ bN
  big : E.length ≤ 1000000
def PhPost (w : World) (g bE cE : Nat) (AT AL : Option Addr) (cT cL bL : Nat) (E : List (List Int)) (tt : List Int) (m : Nat) (ok : Nat → Prop) (bV bN : Nat) (V : List Int) (r : Int) (left next : List Int) (e : Ending) (w' : World) : Prop :=
  e = .returned (.int .i64 r) ∧ PhInv w w' g bE cE AT AL cT cL bL E tt left m ok bV bN V next
theorem PhInv.push {w w' : World} {g bE cE : Nat} {AT AL : Option Addr} {cT cL bL : Nat} {E : List (List Int)} {tt left : List Int} {m : Nat} {ok : Nat → Prop} {bV bN : Nat} {V next : List Int}
    (h : PhInv w w' g bE cE AT AL cT cL bL E tt left m ok bV bN V next) {k : Nat} {top r : Int} {left2 next2 : List Int} (hp : push E tt V k 0 top left next = some (r, left2, next2)) :
    Calls Try.prog 157 #[.pointer (some ⟨g, 0, none⟩), .int .i64 0, .int .i64 top] w' (PhPost w g bE cE AT AL cT cL bL E tt m ok bV bN V r left2 next2) := by
  have hsz := h.run.mov.size
  have hgl := h.run.glt
  obtain ⟨bL', hLA, hgL, hVL, hNL, hokL, hwh⟩ : ∃ bL', LA w' AL bL' left ∧ g ≠ bL' ∧ bV ≠ bL' ∧ bL' ≠ bN ∧ (∀ b, ok b → b ≠ bL') ∧ (bL' = bL ∧ bL' < w.heap.size ∨ m = 0 ∧ w.heap.size ≤ bL') := by
    rcases h.run.hb with h0 | ⟨h1, h2, h3⟩
    · refine ⟨w'.heap.size, .inl (List.length_eq_zero_iff.1 (by rw [h.run.lL]; exact h0)), by omega, ?_, ?_, fun b hb => ?_, .inr ⟨h0, hsz⟩⟩
      · have := h.hV.lt; omega
      · have := h.hN.lt; omega
      · have := (h.run.hok b hb).1; omega
    · exact ⟨bL, h.run.hL, fun e => h2 e.symm, by have := h.gbV; omega, by have := h.gbN; omega, h3, .inl ⟨rfl, h1⟩⟩
  have hcells : w'.heap[g]? = some (.cells #[.slice (some ⟨bE, 0, none⟩) E.length cE, .slice AT tt.length cT, .slice AL m cL, .slice (some ⟨bV, 0, none⟩) V.length V.length, .slice (some ⟨bN, 0, none⟩) E.length E.length] 172 (0, 0)) := by
    rw [h.lV, ← h.run.lL]
    exact h.run.hg
  have hgV : g ≠ bV := by have := h.gbV; omega
  have hgN : g ≠ bN := by have := h.gbN; omega
  refine (push_calls g bE cE AT AL cT cL bL' bV bN E tt V (fun b => ok b ∨ b = bV) ?_ ⟨hgL, hgN⟩ hNL m k 0 top left next w' r left2 next2 hcells ?_ ?_ ?_ hLA h.hN h.run.lL h.lN hp).mono ?_
  · rintro b (hb | rfl)
    · exact ⟨hokL b hb, by have := (h.run.hok b hb).1; have := h.gbN; omega⟩
    · exact ⟨hVL, h.ne⟩
  · exact Kd.F_mono h.run.fE (fun _ hk => .inl hk)
  · exact Kd.F_mono h.run.fT (fun _ hk => .inl hk)
  · exact Kd.F_mono (h.hV.F (by rw [h.lV]; have := h.big; omega)) (fun _ hk => .inr hk)
  · rintro e w2 ⟨rfl, hI⟩
    have hk := hI.mov
    refine ⟨rfl, {
      run := {
        hg := ?_
        fE := Kd.F_kept h.run.fE hk.kept (fun b hb h1 => h1.elim (hokL b hb) (fun e => by have := (h.run.hok b hb).1; have := h.gbN; omega))
        fT := Kd.F_kept h.run.fT hk.kept (fun b hb h1 => h1.elim (hokL b hb) (fun e => by have := (h.run.hok b hb).1; have := h.gbN; omega))
        hL := ?_
        lL := hI.lL
        mm := h.run.mm
        hb := h.run.hb
        hok := h.run.hok
        glt := h.run.glt
        mov := h.run.mov.trans hk ?_ }
      hV := h.hV.move (hk.kept.2 bV h.hV.lt (fun h1 => h1.elim hVL h.ne))
      hN := hI.hN
      lV := h.lV
      lN := hI.lN
      gbV := h.gbV
      gbN := h.gbN
      ne := h.ne
      big := h.big }⟩
    · have h1 := hk.blk h.run.hg (fun h1 => h1.elim hgL hgN)
      rw [resCells, h.run.lL] at h1
      rw [resCells, hI.lL]
      exact h1
    · rcases hwh with ⟨h1, _⟩ | ⟨h1, _⟩
      · rw [← h1]; exact hI.hL
      · exact .inl (List.length_eq_zero_iff.1 (by rw [hI.lL]; exact h1))
    · rintro b (rfl | rfl)
      · rcases hwh with ⟨h1, _⟩ | ⟨_, h1⟩
        · exact .inl (.inr h1)
        · exact .inr h1
      · exact .inr h.gbN
end Go.Proofs.Ytclpjlaielphfaa.Flow
end
