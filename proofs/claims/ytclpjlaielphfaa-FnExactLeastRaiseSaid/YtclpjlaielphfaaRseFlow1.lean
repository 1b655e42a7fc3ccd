/- Used by the claim's last text. -/
import Derived.Test.YtclpjlaielphfaaRseFlowP
import Derived.Test.YtclpjlaielphfaaProg
import Derived.Deep.QuietTactic
import Derived.BigQuiet
import Derived.StillTailTactics
import Derived.Deep.DeepMust
section
namespace Go.Proofs.Ytclpjlaielphfaa.Flow
open Go Go.RowKit Go.Proofs.YtclpjlaielphfaaW.PrintWords Go.Proofs.YtclpjlaielphfaaW.PrintLast Go.Proofs.YtclpjlaielphfaaW.PrintMore
set_option linter.unusedVariables false
set_option linter.unusedSimpArgs false
structure Mov (w w' : World) (S : Nat → Prop) : Prop where
  os : w'.os = w.os
  tape : w'.tape = w.tape
  output : w'.output = w.output
  kept : Kept w w' S
namespace Mov
variable {w w1 w2 w0 : World} {S S' : Nat → Prop}
theorem refl (w : World) (S : Nat → Prop) : Mov w w S := ⟨rfl, rfl, rfl, Kept.refl w S⟩
theorem of_below (h : Below w.heap.size w w1) (S : Nat → Prop) : Mov w w1 S := ⟨h.os, h.tape, h.output, Kept.of_below h S⟩
theorem trans (h : Mov w w1 S) (k : Mov w1 w2 S') (hs : ∀ k, S' k → S k ∨ w.heap.size ≤ k) : Mov w w2 S := ⟨k.os.trans h.os, k.tape.trans h.tape, k.output.trans h.output, Kept.then_ h.kept k.kept hs⟩
theorem mono (h : Mov w w1 S) (hs : ∀ k, S k → S' k) : Mov w w1 S' := ⟨h.os, h.tape, h.output, h.kept.mono hs⟩
theorem setCell (h : Mov w w1 S) (b j : Nat) (u : Value) (hb : S b ∨ w.heap.size ≤ b) : Mov w (w1.setCell ⟨b, j, none⟩ u) S :=
  h.trans (S' := fun k => k = b) ⟨rfl, rfl, rfl, ⟨by simp [World.setCell], fun i hi hne => Below.heap_setCell w1 ⟨b, j, none⟩ u i hne⟩⟩ (fun k hk => by subst hk; exact hb)
theorem alloc (h : Mov w w1 S) (o : Obj) : Mov w (w1.alloc o) S := h.trans (of_below (below_alloc (Below.refl _ _) o) (fun _ => False)) (fun _ hk => hk.elim)
theorem drewN (h : Mov w w1 S) (n : Nat) : Mov w (w1.drewN n) S := h.trans (of_below (pw_below_drewN (Below.refl _ _) n) (fun _ => False)) (fun _ hk => hk.elim)
theorem grown (h : Mov w w1 S) {row : Option Nat} (hg : w1.grownBy w2 row) (hr : ∀ k, row = some k → S k ∨ w.heap.size ≤ k) : Mov w w2 S :=
  h.trans (S' := fun k => row = some k) ⟨hg.os, hg.tape, hg.output, ⟨hg.size, fun i hi hne => hg.block i hi (fun e => hne e.symm)⟩⟩ hr
theorem below (h : Mov w w1 S) (hB : Below w0.heap.size w0 w) (hS : ∀ k, S k → w0.heap.size ≤ k) : Below w0.heap.size w0 w1 :=
  ⟨h.os.trans hB.os, h.tape.trans hB.tape, h.output.trans hB.output, Nat.le_trans hB.size h.kept.1, fun i hi => (h.kept.2 i (Nat.lt_of_lt_of_le hi hB.size) (fun hk => by have := hS i hk; omega)).trans (hB.block i hi)⟩
theorem size (h : Mov w w1 S) : w.heap.size ≤ w1.heap.size := h.kept.1
theorem blk (h : Mov w w1 S) {b : Nat} {o : Obj} (hb : w.heap[b]? = some o) (hS : ¬ S b) : w1.heap[b]? = some o := (h.kept.2 b (blk_lt hb) hS).trans hb
end Mov
section
variable {P : Program} {ops : Array Oper} {rest : List Oper} {o : Oper} {a : Act} {Q : Exit → Act → World → Prop}
theorem ev_make {α : Type} {enc : α → Value} (z : α) {W : World} (hgd : o.guard = none) {N : Tmp} (_hd : o.dst = some N) (t e : TypeId) (x y : Operand) (ho : o.op = .makeSlice t x y) (n : Nat)
    (hx : a.eval x = .int .i64 n) (hy : a.eval y = .int .i64 n) (ht : P.underlying t = some (.slice e)) (bytes : Nat)
    (hinfo : (P.info? e).map (fun i => (i.zero, i.size, i.bytes)) = some (some (enc z), 1, bytes)) (hz : (enc z).cells.size = 1 ∧ (enc z).cells.toList = [enc z]) (hl : n * bytes ≤ 281474976710656) (hn : n ≤ 281474976710656)
    (h : ∀ w1, Arr enc e w1 W.heap.size (List.replicate n z) → Below W.heap.size W w1 → w1.heap.size = W.heap.size + 1 → wpList P ops Q rest (a.put o.dst (.slice (some ⟨W.heap.size, 0, none⟩) n n)) w1) : wpList P ops Q (o :: rest) a W := by
  obtain ⟨i0, hi, hzz⟩ := Option.map_eq_some_iff.1 hinfo
  simp only [Prod.mk.injEq] at hzz
  obtain ⟨hz0, hz1, hz2⟩ := hzz
  have hr := run_make (P := P) W t e i0 (enc z) ht hi hz0 .i64 .i64 (n : Int) (n : Int) (by omega) (by omega)
    (by
      have h3 : ((i0.bytes * n : Nat) : Int) ≤ 281474976710656 := by rw [hz2, Nat.mul_comm]; omega
      rwa [Int.natCast_mul] at h3) (by omega)
  simp only [Int.toNat_natCast] at hr
  rw [hz1, Nat.mul_one] at hr
  refine Kd.event_run hgd (v := .slice (some ⟨W.heap.size, 0, none⟩) n n) (w1 := W.alloc (.cells (madeCells (enc z).cells n) e)) ?_ (h _ (Arr.made _ _ ?_) (below_alloc (Below.refl _ _) _) (by simp))
  · simp [execOp, ho, hx, hy, hr]
  · apply List.ext_getElem
    · simp [madeCells]
    · intro i h1 h2
      have hone : (enc z).cells = #[enc z] := by
        apply Array.toList_inj.1
        rw [hz.2]
      simp [madeCells, hone, Nat.mod_one]
theorem ev_makeN {α : Type} {enc : α → Value} (z : α) {W : World} (hgd : o.guard = none) {N : Tmp} (_hd : o.dst = some N) (t e : TypeId) (x y : Operand) (ho : o.op = .makeSlice t x y) (n : Nat)
    (hx : a.eval x = .int .i64 n) (hy : a.eval y = .int .i64 n) (ht : P.underlying t = some (.slice e)) (bytes : Nat)
    (hinfo : (P.info? e).map (fun i => (i.zero, i.size, i.bytes)) = some (some (enc z), 1, bytes)) (hz : (enc z).cells.size = 1 ∧ (enc z).cells.toList = [enc z]) (hl : n * bytes ≤ 281474976710656) (hn : n ≤ 281474976710656)
    (h : ∀ w1, ArrN enc e w1 W.heap.size (List.replicate n z) → Below W.heap.size W w1 → w1.heap.size = W.heap.size + 1 → wpList P ops Q rest (a.put o.dst (.slice (some ⟨W.heap.size, 0, none⟩) n n)) w1) : wpList P ops Q (o :: rest) a W := by
  obtain ⟨i0, hi, hzz⟩ := Option.map_eq_some_iff.1 hinfo
  simp only [Prod.mk.injEq] at hzz
  obtain ⟨hz0, hz1, hz2⟩ := hzz
  have hr := run_make (P := P) W t e i0 (enc z) ht hi hz0 .i64 .i64 (n : Int) (n : Int) (by omega) (by omega)
    (by
      have h3 : ((i0.bytes * n : Nat) : Int) ≤ 281474976710656 := by rw [hz2, Nat.mul_comm]; omega
      rwa [Int.natCast_mul] at h3) (by omega)
  simp only [Int.toNat_natCast] at hr
  rw [hz1, Nat.mul_one] at hr
  refine Kd.event_run hgd (v := .slice (some ⟨W.heap.size, 0, none⟩) n n) (w1 := W.alloc (.cells (madeCells (enc z).cells n) e)) ?_ (h _ ⟨_, heap_alloc_new W _, ?_⟩ (below_alloc (Below.refl _ _) _) (by simp))
  · simp [execOp, ho, hx, hy, hr]
  · apply List.ext_getElem
    · simp [madeCells]
    · intro i h1 h2
      have hone : (enc z).cells = #[enc z] := by
        apply Array.toList_inj.1
        rw [hz.2]
      simp [madeCells, hone, Nat.mod_one]
theorem ev_lit {α : Type} {enc : α → Value} (xs : List α) {W : World} (hgd : o.guard = none) {N : Tmp} (_hd : o.dst = some N) {e : TypeId}
    (hrun : (execOp a.eval o).run P W = .ok (.value (.slice (some ⟨W.heap.size, 0, none⟩) xs.length xs.length)) (W.alloc (.cells (xs.map enc).toArray e)))
    (h : ∀ w1, Arr enc e w1 W.heap.size xs → w1.heap[W.heap.size]? = some (.cells (xs.map enc).toArray e (0, 0)) → Below W.heap.size W w1 → w1.heap.size = W.heap.size + 1 → wpList P ops Q rest (a.put o.dst (.slice (some ⟨W.heap.size, 0, none⟩) xs.length xs.length)) w1) : wpList P ops Q (o :: rest) a W :=
  Kd.event_run hgd hrun (h _ (Arr.made _ _ rfl) (heap_alloc_new W _) (below_alloc (Below.refl _ _) _) (by simp))
end
theorem blk_cell {w : World} {g : Nat} {cs : Array Value} {t : TypeId} {fz : Nat × Nat} (h : w.heap[g]? = some (.cells cs t fz)) (j : Nat) (v : Value) (hj : cs[j]? = some v) : w.cell? ⟨g, j, none⟩ = some v := by
  rw [cell_of_row w g j cs t fz h, hj]
theorem blk_free {w : World} {g : Nat} {cs : Array Value} {t : TypeId} (h : w.heap[g]? = some (.cells cs t (0, 0))) (j : Nat) : w.frozen? ⟨g, j, none⟩ = false := by
  simp [World.frozen?, h]
theorem blk_set {w : World} {g : Nat} {cs : Array Value} {t : TypeId} (h : w.heap[g]? = some (.cells cs t (0, 0))) (j : Nat) (u : Value) : (w.setCell ⟨g, j, none⟩ u).heap[g]? = some (.cells (cs.setIfInBounds j u) t (0, 0)) := by
  rw [setCell_eq_setRow w g j cs t (0, 0) u h]
  exact setRow_heap w g cs _ t _ h
theorem blk_far' {w : World} {g b : Nat} {o : Obj} (h : w.heap[g]? = some o) (hb : g ≠ b) (j : Nat) (u : Value) : (w.setCell ⟨b, j, none⟩ u).heap[g]? = some o := (Below.heap_setCell w ⟨b, j, none⟩ u g hb).trans h
theorem blk_below' {w w1 : World} {g : Nat} {o : Obj} (h : w.heap[g]? = some o) (hb : Below w.heap.size w w1) : w1.heap[g]? = some o := (hb.block g (blk_lt h)).trans h
theorem info3 : (Try.prog.info? 3).map (fun i => (i.zero, i.size, i.bytes)) = some (some (.int .i64 0), 1, 8) := by kernel_rfl
theorem info4 : (Try.prog.info? 4).map (fun i => (i.zero, i.size, i.bytes)) = some (some (.bool false), 1, 1) := by kernel_rfl
abbrev resCells (E : List (List Int)) (tt left : List Int) (bE cE : Nat) (AT AL : Option Addr) (cT cL : Nat) (vV vN : Value) : Array Value :=
  #[.slice (some ⟨bE, 0, none⟩) E.length cE, .slice AT tt.length cT, .slice AL left.length cL, vV, vN]
structure FsInv (w w' : World) (g bE cE : Nat) (AT AL : Option Addr) (cT cL : Nat) (E : List (List Int)) (tt left : List Int) (vN : Value) (ok : Nat → Prop) (bV bI : Nat) (I : List Bool) (V Q : List Int) (vQ : Value) : Prop where
  hg : w'.heap[g]? = some (.cells (resCells E tt left bE cE AT AL cT cL (.slice (some ⟨bV, 0, none⟩) E.length E.length) vN) 172 (0, 0))
  fE : Kd.F (Kd.slice 3 (Kd.int .i64)) w' ok (some ⟨bE, 0, none⟩) E.length E
  fT : Kd.F (Kd.int .i64) w' ok AT tt.length tt
  fL : Kd.F (Kd.int .i64) w' ok AL left.length left
  hok : ∀ k, ok k → k < w.heap.size ∧ k ≠ g
  hI : ArrN Value.bool 4 w' bI I
  hV : IA w' bV V
  hQ : Kd.Q (Kd.int .i64) 3 w' w.heap.size (fun k => k ≠ bV ∧ w.heap.size ≤ k) vQ Q
  lI : I.length = E.length
  lV : V.length = E.length
  gbI : w.heap.size ≤ bI
  gbV : w.heap.size ≤ bV
  glt : g < w.heap.size
  mov : Mov w w' (fun b => b = g)
namespace FsInv
variable {w w' : World} {g bE cE : Nat} {AT AL : Option Addr} {cT cL : Nat} {E : List (List Int)} {tt left : List Int} {vN : Value} {ok : Nat → Prop} {bV bI : Nat} {I : List Bool} {V Q : List Int} {vQ : Value}
theorem ne (h : FsInv w w' g bE cE AT AL cT cL E tt left vN ok bV bI I V Q vQ) : bI ≠ bV := by
  rintro rfl
  obtain ⟨c1, h1, _⟩ := h.hI
  obtain ⟨c2, h2, _⟩ := h.hV
  rw [h1] at h2
  injection h2 with h2
  injection h2 with _ h2
  exact absurd h2 (by decide)
theorem mark (h : FsInv w w' g bE cE AT AL cT cL E tt left vN ok bV bI I V Q vQ) (T : Int) (hT : 0 ≤ T ∧ T < (E.length : Int)) : FsInv w (w'.setCell ⟨bI, T.toNat, none⟩ (.bool true)) g bE cE AT AL cT cL E tt left vN ok bV bI (I.set T.toNat true) V Q vQ where
  hg := blk_far' h.hg (by have := h.glt; have := h.gbI; omega) _ _
  fE := Kd.F_far (p := ⟨bI, T.toNat, none⟩) h.fE (fun k hk => by have := h.hok k hk; have := h.gbI; show k ≠ bI; omega) _
  fT := Kd.F_far (p := ⟨bI, T.toNat, none⟩) h.fT (fun k hk => by have := h.hok k hk; have := h.gbI; show k ≠ bI; omega) _
  fL := Kd.F_far (p := ⟨bI, T.toNat, none⟩) h.fL (fun k hk => by have := h.hok k hk; have := h.gbI; show k ≠ bI; omega) _
  hok := h.hok
  hI := h.hI.set T.toNat (by rw [h.lI]; omega) true
  hV := h.hV.far h.ne.symm _ _
  hQ := by
    obtain ⟨c1, h1, _⟩ := h.hI
    exact Kd.Q_set h.hQ h1 (by decide) _ _
  lI := by rw [List.length_set]; exact h.lI
  lV := h.lV
  gbI := h.gbI
  gbV := h.gbV
  glt := h.glt
  mov := h.mov.setCell bI _ _ (.inr h.gbI)
theorem level (h : FsInv w w' g bE cE AT AL cT cL E tt left vN ok bV bI I V Q vQ) (T x : Int) (hT : 0 ≤ T ∧ T < (E.length : Int)) : FsInv w (w'.setCell ⟨bV, T.toNat, none⟩ (.int .i64 x)) g bE cE AT AL cT cL E tt left vN ok bV bI I (V.set T.toNat x) Q vQ where
  hg := blk_far' h.hg (by have := h.glt; have := h.gbV; omega) _ _
  fE := Kd.F_far (p := ⟨bV, T.toNat, none⟩) h.fE (fun k hk => by have := h.hok k hk; have := h.gbV; show k ≠ bV; omega) _
  fT := Kd.F_far (p := ⟨bV, T.toNat, none⟩) h.fT (fun k hk => by have := h.hok k hk; have := h.gbV; show k ≠ bV; omega) _
  fL := Kd.F_far (p := ⟨bV, T.toNat, none⟩) h.fL (fun k hk => by have := h.hok k hk; have := h.gbV; show k ≠ bV; omega) _
  hok := h.hok
  hI := h.hI.far h.ne _ _
  hV := Arr.set h.hV T.toNat (by rw [h.lV]; omega) x
  hQ := Kd.Q_far (p := ⟨bV, T.toNat, none⟩) h.hQ (fun k hk => hk.1) _
  lI := h.lI
  lV := by rw [List.length_set]; exact h.lV
  gbI := h.gbI
  gbV := h.gbV
  glt := h.glt
  mov := h.mov.setCell bV _ _ (.inr h.gbV)
theorem later {w2 : World} (h : FsInv w w' g bE cE AT AL cT cL E tt left vN ok bV bI I V Q vQ) (hb : Below w'.heap.size w' w2) : FsInv w w2 g bE cE AT AL cT cL E tt left vN ok bV bI I V Q vQ where
  hg := blk_below' h.hg hb
  fE := Kd.F_below h.fE hb
  fT := Kd.F_below h.fT hb
  fL := Kd.F_below h.fL hb
  hok := h.hok
  hI := h.hI.below hb
  hV := h.hV.below hb
  hQ := Kd.Q_below h.hQ hb
  lI := h.lI
  lV := h.lV
  gbI := h.gbI
  gbV := h.gbV
  glt := h.glt
  mov := h.mov.trans (Mov.of_below hb (fun _ => False)) (fun _ hk => hk.elim)
theorem queued {w2 : World} {v2 : Value} {Q2 : List Int} (h : FsInv w w' g bE cE AT AL cT cL E tt left vN ok bV bI I V Q vQ) (hq : Kd.Q (Kd.int .i64) 3 w2 w.heap.size (fun k => k ≠ bV ∧ w.heap.size ≤ k) v2 Q2) (hgr : w'.grownBy w2 vQ.ownBlock) : FsInv w w2 g bE cE AT AL cT cL E tt left vN ok bV bI I V Q2 v2 where
  hg := by
    rw [hgr.block g (blk_lt h.hg) (fun he => by have := (h.hQ.1 g he.symm).2; have := h.glt; omega)]
    exact h.hg
  fE := Kd.F_grown h.fE hgr (fun k hk he => by have := (h.hQ.1 k he.symm).2; have := h.hok k hk; omega)
  fT := Kd.F_grown h.fT hgr (fun k hk he => by have := (h.hQ.1 k he.symm).2; have := h.hok k hk; omega)
  fL := Kd.F_grown h.fL hgr (fun k hk he => by have := (h.hQ.1 k he.symm).2; have := h.hok k hk; omega)
  hok := h.hok
  hI := h.hI.move (hgr.block bI h.hI.lt (fun he => by
    obtain ⟨c1, h1⟩ := Kd.Q_typed h.hQ bI he.symm
    obtain ⟨c2, h2, _⟩ := h.hI
    rw [h1] at h2
    injection h2 with h2
    injection h2 with _ h2
    exact absurd h2 (by decide)))
  hV := h.hV.move (hgr.block bV h.hV.lt (fun he => (h.hQ.1 bV he.symm).1 rfl))
  hQ := hq
  lI := h.lI
  lV := h.lV
  gbI := h.gbI
  gbV := h.gbV
  glt := h.glt
  mov := h.mov.grown hgr (fun k hk => .inr (h.hQ.1 k hk).2)
end FsInv
end Go.Proofs.Ytclpjlaielphfaa.Flow
end
