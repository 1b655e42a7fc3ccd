/- Used by the claim's last text. -/
import Derived.Test.YtclpjlaielphfaaRseFlow1
section
namespace Go.Proofs.Ytclpjlaielphfaa.Flow
open Go Go.RowKit Go.Proofs.YtclpjlaielphfaaW.PrintWords Go.Proofs.YtclpjlaielphfaaW.PrintLast Go.Proofs.YtclpjlaielphfaaW.PrintMore
set_option linter.unusedVariables false
abbrev KI : Kd Int := Kd.int .i64
abbrev KR : Kd (List Int) := Kd.slice 3 (Kd.int .i64)
def addE (E : List (List Int)) (a x : Int) : List (List Int) := E.set a.toNat (rowAt E a ++ [x])
theorem addE_len (E : List (List Int)) (a x : Int) : (addE E a x).length = E.length := by simp [addE]
structure NetInv (w w' : World) (g : Nat) (cs : Value → Value → Array Value) (ty bE cE : Nat) (E : List (List Int)) (tt left : List Int) (vT vL : Value) : Prop where
  hg : w'.heap[g]? = some (.cells (cs vT vL) ty (0, 0))
  hE : Kd.S KR 23 w' w.heap.size (fun k => some k ≠ vT.ownBlock ∧ some k ≠ vL.ownBlock) (.slice (some ⟨bE, 0, none⟩) E.length cE) E
  hT : Kd.R KI 3 w' w.heap.size (fun k => some k ≠ vL.ownBlock) vT tt
  hL : Kd.R KI 3 w' w.heap.size (fun k => some k ≠ vT.ownBlock) vL left
  gg : w.heap.size ≤ g
  hty : ty ≠ 3 ∧ ty ≠ 23
  mov : Below w.heap.size w w'
namespace NetInv
variable {w w' w2 : World} {g : Nat} {cs : Value → Value → Array Value} {ty bE cE : Nat} {E : List (List Int)} {tt left : List Int} {vT vL : Value}
theorem later (h : NetInv w w' g cs ty bE cE E tt left vT vL) (hb : Below w'.heap.size w' w2) : NetInv w w2 g cs ty bE cE E tt left vT vL where
  hg := blk_below' h.hg hb
  hE := Kd.S_below h.hE hb
  hT := Kd.R_below h.hT hb
  hL := Kd.R_below h.hL hb
  gg := h.gg
  hty := h.hty
  mov := below_then h.mov h.mov.size hb
theorem bbE (h : NetInv w w' g cs ty bE cE E tt left vT vL) : w.heap.size ≤ bE ∧ bE < w'.heap.size ∧ (∃ c, w'.heap[bE]? = some (.cells c 23 (0, 0))) ∧ g ≠ bE := by
  have h1 := Kd.S_base h.hE bE (by simp [Value.ownBlock])
  have h2 := Kd.S_lt h.hE bE (by simp [Value.ownBlock])
  obtain ⟨c, h3⟩ := Kd.S_typed h.hE bE (by simp [Value.ownBlock])
  refine ⟨h1, h2, ⟨c, h3⟩, ?_⟩
  rintro rfl
  rw [h.hg] at h3
  injection h3 with h3
  injection h3 with _ h3
  exact h.hty.2 h3
theorem row (h : NetInv w w' g cs ty bE cE E tt left vT vL) (a : Int) (ha : inb a E) :
    ∃ (ok : Nat → Prop) (A : Option Addr) (c : Nat), w'.cell? ⟨bE, a.toNat, none⟩ = some (.slice A (rowAt E a).length c) ∧ (∀ w2, Below w'.heap.size w' w2 → w2.frozen? ⟨bE, a.toNat, none⟩ = false) ∧
      (∀ w2, Below w'.heap.size w' w2 → Kd.R KI 3 w2 w.heap.size ok (.slice A (rowAt E a).length c) (rowAt E a)) ∧ (∀ k, w'.heap.size ≤ k → ok k) ∧
      ∀ {w2 w3 : World} {v1 : Value} {x : Int}, Below w'.heap.size w' w2 → Kd.R KI 3 w3 w.heap.size ok v1 (rowAt E a ++ [x]) → w2.grownBy w3 (Value.slice A (rowAt E a).length c).ownBlock →
        w3.heap[g]? = some (.cells (cs vT vL) ty (0, 0)) ∧ w3.frozen? ⟨bE, a.toNat, none⟩ = false ∧ w3.cell? ⟨bE, a.toNat, none⟩ = some (.slice A (rowAt E a).length c) ∧ (∀ k, (Value.slice A (rowAt E a).length c).ownBlock = some k → w.heap.size ≤ k ∧ ∃ cells, w'.heap[k]? = some (.cells cells 3 (0, 0))) ∧
        NetInv w (w3.setCell ⟨bE, a.toNat, none⟩ v1) g cs ty bE cE (addE E a x) tt left vT vL := by
  obtain ⟨oki, c, hcl, hM, hcc, hfr, hoki, hH⟩ := Kd.S_elem h.hE [] a ha.1 (by have := ha.2; omega)
  obtain ⟨v, rfl, hR⟩ := hM
  have hrow : E.getD a.toNat [] = rowAt E a := rfl
  rw [hrow] at hR
  obtain ⟨A, c, rfl⟩ := Kd.R_slice hR
  have hc0 : w'.cell? ⟨bE, a.toNat, none⟩ = some (.slice A (rowAt E a).length c) := by
    have h_ := hcc 0 _ rfl
    simpa [Kd.slice] using h_
  have hf0 : w'.frozen? ⟨bE, a.toNat, none⟩ = false := by
    have h_ := hfr 0
    simpa [Kd.slice] using h_
  have hTlt := Kd.R_lt h.hT
  have hLlt := Kd.R_lt h.hL
  have hwid := Kd.H_widen hH
  have hset : ∀ (W : World) (u : Value), W.setCells bE (a.toNat * KR.sz + 0) [u] = W.setCell ⟨bE, a.toNat, none⟩ u := fun W u => by simp [World.setCells, Kd.slice]
  refine ⟨fun k => oki k ∨ (some k ≠ vT.ownBlock ∧ some k ≠ vL.ownBlock) ∧ w'.heap.size ≤ k, A, c, hc0, fun w2 hb => ?_, fun w2 hb => Kd.R_mono (Kd.R_below hR hb) (fun k hk => .inl hk), fun k hk => .inr ⟨⟨fun e => ?_, fun e => ?_⟩, hk⟩, ?_⟩
  · have h_ := (Kd.H_at (Kd.H_below hH hb) ha.1 (by have := ha.2; omega)).2 0
    simpa [Kd.slice] using h_
  · have := hTlt k e.symm; omega
  · have := hLlt k e.symm; omega
  · intro w2 w3 v1 x hb hR1 hg3
    have hgR : ∀ k, (Value.slice A (rowAt E a).length c).ownBlock = some k → oki k := hR.1
    have hty3 := Kd.R_typed hR
    have hbase := Kd.R_base hR
    obtain ⟨hb1, hb2, ⟨cB, hbt⟩, hgb⟩ := h.bbE
    have hrow2 : ∀ k, (Value.slice A (rowAt E a).length c).ownBlock = some k → some k ≠ vT.ownBlock ∧ some k ≠ vL.ownBlock := fun k hk => (hoki k (hgR k hk)).1
    have hH3 := Kd.H_grown (Kd.H_below hwid hb) hg3 (fun k hk => .inl (hgR k hk))
    obtain ⟨hS, hgS⟩ := Kd.S_seg0 hH3 ha.1 (by have := ha.2; omega) (seg := [v1]) (j := 0) (show 0 + 1 ≤ 1 by decide) (x' := rowAt E a ++ [x]) (Kd.M_row hR1) (fun _ hk => hk)
    rw [hset] at hS hgS
    have hat3 := Kd.H_at hH3 ha.1 (by have := ha.2; omega)
    have hg2 : w2.heap[g]? = some (.cells (cs vT vL) ty (0, 0)) := blk_below' h.hg hb
    have hgne : some g ≠ (Value.slice A (rowAt E a).length c).ownBlock := fun e => by
      obtain ⟨c3, h3⟩ := hty3 g e.symm
      rw [h.hg] at h3
      injection h3 with h3
      injection h3 with _ h3
      exact h.hty.1 h3
    have hgw3 : w3.heap[g]? = some (.cells (cs vT vL) ty (0, 0)) := (hg3.block g (blk_lt hg2) hgne).trans hg2
    have hbT : some bE ≠ vT.ownBlock := fun e => by
      obtain ⟨c3, h3⟩ := Kd.R_typed h.hT bE e.symm
      rw [hbt] at h3
      injection h3 with h3
      injection h3 with _ h3
      exact absurd h3 (by decide)
    have hbL : some bE ≠ vL.ownBlock := fun e => by
      obtain ⟨c3, h3⟩ := Kd.R_typed h.hL bE e.symm
      rw [hbt] at h3
      injection h3 with h3
      injection h3 with _ h3
      exact absurd h3 (by decide)
    refine ⟨hgw3, ?_, ?_, fun k hk => ⟨hbase k hk, hty3 k hk⟩, {
      hg := blk_far' hgw3 hgb _ _
      hE := ?_
      hT := ?_
      hL := ?_
      gg := h.gg
      hty := h.hty
      mov := ?_ }⟩
    · have h_ := hat3.2 0
      simpa [Kd.slice] using h_
    · have h_ := hat3.1 0 _ rfl
      simpa [Kd.slice] using h_
    · rw [addE_len, addE]
      exact hS
    · exact Kd.R_mono (Kd.R_far (p := ⟨bE, a.toNat, none⟩) (Kd.R_far1 (Kd.R_grown2 (Kd.R_below h.hT hb) rfl hg3 (fun k hk => (hrow2 k hk).1)) rfl hbT) (fun _ hk => hk.2) v1) (fun _ hk => hk.1)
    · exact Kd.R_mono (Kd.R_far (p := ⟨bE, a.toNat, none⟩) (Kd.R_far1 (Kd.R_grown2 (Kd.R_below h.hL hb) rfl hg3 (fun k hk => (hrow2 k hk).2)) rfl hbL) (fun _ hk => hk.2) v1) (fun _ hk => hk.1)
    · exact below_set ((below_then h.mov h.mov.size hb).grown hg3 (below_then h.mov h.mov.size hb).size hbase) hb1
theorem tt_app (h : NetInv w w' g cs ty bE cE E tt left vT vL) (hb : Below w'.heap.size w' w2) :
    Kd.R KI 3 w2 w.heap.size (fun k => some k ≠ vL.ownBlock) vT tt ∧ (∀ k, w2.heap.size ≤ k → some k ≠ vL.ownBlock) ∧
    ∀ {w3 : World} {v1 : Value} {ys : List Int}, Kd.R KI 3 w3 w.heap.size (fun k => some k ≠ vL.ownBlock) v1 (tt ++ ys) → w2.grownBy w3 vT.ownBlock → (v1.ownBlock = vT.ownBlock ∨ ∃ b, v1.ownBlock = some b ∧ w2.heap.size ≤ b) →
      w3.heap[g]? = some (.cells (cs vT vL) ty (0, 0)) ∧ (∀ k, vT.ownBlock = some k → ∃ cells, w'.heap[k]? = some (.cells cells 3 (0, 0))) ∧
      ∀ j, (cs vT vL).setIfInBounds j v1 = cs v1 vL → NetInv w (w3.setCell ⟨g, j, none⟩ v1) g cs ty bE cE E (tt ++ ys) left v1 vL := by
  have hXlt := Kd.R_lt h.hL
  have hsz := hb.size
  refine ⟨Kd.R_below h.hT hb, fun k hk e => by have := hXlt k e.symm; omega, fun {w3 v1 ys} hR1 hg3 hat => ?_⟩
  have hg2 : w2.heap[g]? = some (.cells (cs vT vL) ty (0, 0)) := blk_below' h.hg hb
  have hty3 := Kd.R_typed h.hT
  have hgne : some g ≠ vT.ownBlock := fun e => by
    obtain ⟨c3, h3⟩ := hty3 g e.symm
    rw [h.hg] at h3
    injection h3 with h3
    injection h3 with _ h3
    exact h.hty.1 h3
  have hgw3 : w3.heap[g]? = some (.cells (cs vT vL) ty (0, 0)) := (hg3.block g (blk_lt hg2) hgne).trans hg2
  refine ⟨hgw3, hty3, fun j hj => ?_⟩
  have hE3 : Kd.S KR 23 w3 w.heap.size (fun k => some k ≠ v1.ownBlock ∧ some k ≠ vL.ownBlock) (.slice (some ⟨bE, 0, none⟩) E.length cE) E := Kd.S_mono (Kd.S_after (ok := fun k => some k ≠ vL.ownBlock) (v := vT) (Kd.S_mono (Kd.S_below h.hE hb) (fun k hk => ⟨hk.2, hk.1⟩)) hg3 hat) (fun k hk => ⟨hk.2, hk.1⟩)
  have hO3 : Kd.R KI 3 w3 w.heap.size (fun k => some k ≠ v1.ownBlock) vL left := Kd.R_mono (Kd.R_after (ok := fun _ => True) (v := vT) (Kd.R_mono (Kd.R_below h.hL hb) (fun k hk => ⟨trivial, hk⟩)) hg3 hat) (fun k hk => hk.2)
  have htE : ∀ q, q ∈ (23 : Nat) :: KR.E → q ≠ ty := by
    intro q hq
    simp [Kd.slice, Kd.int, Kd.scalar] at hq
    have := h.hty
    omega
  have htI : ∀ q, q ∈ (3 : Nat) :: KI.E → q ≠ ty := by
    intro q hq
    simp [Kd.int, Kd.scalar] at hq
    have := h.hty
    omega
  exact {
    hg := by rw [← hj]; exact blk_set hgw3 j v1
    hE := Kd.S_mono (Kd.S_far (p := ⟨g, j, none⟩) (Kd.S_types hE3 hgw3 htE) (fun _ hk => hk.2) v1) (fun _ hk => hk.1)
    hT := Kd.R_mono (Kd.R_far (p := ⟨g, j, none⟩) (Kd.R_types hR1 hgw3 htI) (fun _ hk => hk.2) v1) (fun _ hk => hk.1)
    hL := Kd.R_mono (Kd.R_far (p := ⟨g, j, none⟩) (Kd.R_types hO3 hgw3 htI) (fun _ hk => hk.2) v1) (fun _ hk => hk.1)
    gg := h.gg
    hty := h.hty
    mov := below_set ((below_then h.mov h.mov.size hb).grown hg3 (below_then h.mov h.mov.size hb).size (Kd.R_base h.hT)) h.gg }
theorem left_app (h : NetInv w w' g cs ty bE cE E tt left vT vL) (hb : Below w'.heap.size w' w2) :
    Kd.R KI 3 w2 w.heap.size (fun k => some k ≠ vT.ownBlock) vL left ∧ (∀ k, w2.heap.size ≤ k → some k ≠ vT.ownBlock) ∧
    ∀ {w3 : World} {v1 : Value} {ys : List Int}, Kd.R KI 3 w3 w.heap.size (fun k => some k ≠ vT.ownBlock) v1 (left ++ ys) → w2.grownBy w3 vL.ownBlock → (v1.ownBlock = vL.ownBlock ∨ ∃ b, v1.ownBlock = some b ∧ w2.heap.size ≤ b) →
      w3.heap[g]? = some (.cells (cs vT vL) ty (0, 0)) ∧ (∀ k, vL.ownBlock = some k → ∃ cells, w'.heap[k]? = some (.cells cells 3 (0, 0))) ∧
      ∀ j, (cs vT vL).setIfInBounds j v1 = cs vT v1 → NetInv w (w3.setCell ⟨g, j, none⟩ v1) g cs ty bE cE E tt (left ++ ys) vT v1 := by
  have hXlt := Kd.R_lt h.hT
  have hsz := hb.size
  refine ⟨Kd.R_below h.hL hb, fun k hk e => by have := hXlt k e.symm; omega, fun {w3 v1 ys} hR1 hg3 hat => ?_⟩
  have hg2 : w2.heap[g]? = some (.cells (cs vT vL) ty (0, 0)) := blk_below' h.hg hb
  have hty3 := Kd.R_typed h.hL
  have hgne : some g ≠ vL.ownBlock := fun e => by
    obtain ⟨c3, h3⟩ := hty3 g e.symm
    rw [h.hg] at h3
    injection h3 with h3
    injection h3 with _ h3
    exact h.hty.1 h3
  have hgw3 : w3.heap[g]? = some (.cells (cs vT vL) ty (0, 0)) := (hg3.block g (blk_lt hg2) hgne).trans hg2
  refine ⟨hgw3, hty3, fun j hj => ?_⟩
  have hE3 : Kd.S KR 23 w3 w.heap.size (fun k => some k ≠ vT.ownBlock ∧ some k ≠ v1.ownBlock) (.slice (some ⟨bE, 0, none⟩) E.length cE) E := Kd.S_after (ok := fun k => some k ≠ vT.ownBlock) (v := vL) (Kd.S_below h.hE hb) hg3 hat
  have hO3 : Kd.R KI 3 w3 w.heap.size (fun k => some k ≠ v1.ownBlock) vT tt := Kd.R_mono (Kd.R_after (ok := fun _ => True) (v := vL) (Kd.R_mono (Kd.R_below h.hT hb) (fun k hk => ⟨trivial, hk⟩)) hg3 hat) (fun k hk => hk.2)
  have htE : ∀ q, q ∈ (23 : Nat) :: KR.E → q ≠ ty := by
    intro q hq
    simp [Kd.slice, Kd.int, Kd.scalar] at hq
    have := h.hty
    omega
  have htI : ∀ q, q ∈ (3 : Nat) :: KI.E → q ≠ ty := by
    intro q hq
    simp [Kd.int, Kd.scalar] at hq
    have := h.hty
    omega
  exact {
    hg := by rw [← hj]; exact blk_set hgw3 j v1
    hE := Kd.S_mono (Kd.S_far (p := ⟨g, j, none⟩) (Kd.S_types hE3 hgw3 htE) (fun _ hk => hk.2) v1) (fun _ hk => hk.1)
    hL := Kd.R_mono (Kd.R_far (p := ⟨g, j, none⟩) (Kd.R_types hR1 hgw3 htI) (fun _ hk => hk.2) v1) (fun _ hk => hk.1)
    hT := Kd.R_mono (Kd.R_far (p := ⟨g, j, none⟩) (Kd.R_types hO3 hgw3 htI) (fun _ hk => hk.2) v1) (fun _ hk => hk.1)
    gg := h.gg
    hty := h.hty
    mov := below_set ((below_then h.mov h.mov.size hb).grown hg3 (below_then h.mov h.mov.size hb).size (Kd.R_base h.hL)) h.gg }
end NetInv
end Go.Proofs.Ytclpjlaielphfaa.Flow
end
