/- Used by the claim's last text. -/
import Derived.Test.YtclpjlaielphfaaDrpFlow3
import Derived.Test.YtclpjlaielphfaaDrpFlow5
import Derived.Test.YtclpjlaielphfaaDrpFlow7
section
namespace Go.Proofs.Ytclpjlaielphfaa.Flow
open Go Go.RowKit Go.Proofs.YtclpjlaielphfaaW.PrintWords Go.Proofs.YtclpjlaielphfaaW.PrintLast Go.Proofs.YtclpjlaielphfaaW.PrintMore
set_option linter.unusedVariables false
set_option linter.unusedSimpArgs false
structure SRun (w w' : World) (g bE cE : Nat) (AT AL : Option Addr) (cT cL bL : Nat) (E : List (List Int)) (tt left : List Int) (m : Nat) (ok : Nat → Prop) : Prop where
  hg : w'.heap[g]? = some (.cells (mfCells E tt left bE cE AT AL cT cL) 174 (0, 0))
  fE : Kd.F (Kd.slice 3 (Kd.int .i64)) w' ok (some ⟨bE, 0, none⟩) E.length E
  fT : Kd.F (Kd.int .i64) w' ok AT tt.length tt
  hL : LA w' AL bL left
  lL : left.length = m
  mm : m ≤ 9223372036854775807
  hb : m = 0 ∨ (bL < w.heap.size ∧ bL ≠ g ∧ ∀ b, ok b → b ≠ bL)
  hok : ∀ b, ok b → b < w.heap.size
  glt : g < w.heap.size
  mov : Mov w w' (fun b => b = bL)
namespace SRun
variable {w w' w2 : World} {g bE cE : Nat} {AT AL : Option Addr} {cT cL bL : Nat} {E : List (List Int)} {tt left : List Int} {m : Nat} {ok : Nat → Prop}
theorem later (h : SRun w w' g bE cE AT AL cT cL bL E tt left m ok) (hb : Below w'.heap.size w' w2) : SRun w w2 g bE cE AT AL cT cL bL E tt left m ok where
  hg := blk_below' h.hg hb
  fE := Kd.F_below h.fE hb
  fT := Kd.F_below h.fT hb
  hL := h.hL.move (fun hlt => hb.block bL hlt)
  lL := h.lL
  mm := h.mm
  hb := h.hb
  hok := h.hok
  glt := h.glt
  mov := h.mov.trans (Mov.of_below hb (fun _ => False)) (fun _ hk => hk.elim)
theorem levels (h : SRun w w' g bE cE AT AL cT cL bL E tt left m ok) {k : Nat} {V : List Int} (hf : lv k E tt left = some V) :
    Calls Try.prog 156 #[.pointer (some ⟨g, 0, none⟩)] w' (LvPost w' E V) := by
  refine levels_calls k g bE cE AT AL cT cL E tt left (fun b => (ok b ∨ (m ≠ 0 ∧ b = bL)) ∧ b < w'.heap.size) w' V h.hg (Kd.F_mono (Kd.F_bound h.fE) (fun _ hk => ⟨.inl hk.1, hk.2⟩)) (Kd.F_mono (Kd.F_bound h.fT) (fun _ hk => ⟨.inl hk.1, hk.2⟩)) ?_ (fun b hb => hb.2) hf
  by_cases hm : m = 0
  · have hl : left = [] := List.length_eq_zero_iff.1 (by rw [h.lL]; exact hm)
    subst hl
    intro W' hW
    exact ⟨rfl, by simp, fun h => by simp at h⟩
  · exact Kd.F_mono (Kd.F_bound (h.hL.F (by rw [h.lL]; exact h.mm))) (fun _ hk => ⟨.inr ⟨hm, hk.1⟩, hk.2⟩)
end SRun
structure SPh (w w' : World) (g bE cE : Nat) (AT AL : Option Addr) (cT cL bL : Nat) (E : List (List Int)) (tt left : List Int) (m : Nat) (ok : Nat → Prop) (bV bN : Nat) (V next : List Int) : Prop where
  run : SRun w w' g bE cE AT AL cT cL bL E tt left m ok
  hV : IA w' bV V
  hN : IA w' bN next
  lV : V.length = E.length
  lN : next.length = E.length
  gbV : w.heap.size ≤ bV
  gbN : w.heap.size ≤ bN
  ne : bV ≠ bN
  big : E.length ≤ 1000000
def SPost (w : World) (g bE cE : Nat) (AT AL : Option Addr) (cT cL bL : Nat) (E : List (List Int)) (tt : List Int) (m : Nat) (ok : Nat → Prop) (bV bN : Nat) (V : List Int) (r : Int) (left next : List Int) (e : Ending) (w' : World) : Prop :=
  e = .returned (.int .i64 r) ∧ SPh w w' g bE cE AT AL cT cL bL E tt left m ok bV bN V next
theorem SPh.push {w w' : World} {g bE cE : Nat} {AT AL : Option Addr} {cT cL bL : Nat} {E : List (List Int)} {tt left : List Int} {m : Nat} {ok : Nat → Prop} {bV bN : Nat} {V next : List Int}
    (h : SPh w w' g bE cE AT AL cT cL bL E tt left m ok bV bN V next) {k : Nat} {top r : Int} {left2 next2 : List Int} (hp : push E tt V k 0 top left next = some (r, left2, next2)) :
    Calls Try.prog 159 #[.pointer (some ⟨g, 0, none⟩), .int .i64 0, .int .i64 top, .slice (some ⟨bV, 0, none⟩) E.length E.length, .slice (some ⟨bN, 0, none⟩) E.length E.length] w' (SPost w g bE cE AT AL cT cL bL E tt m ok bV bN V r left2 next2) := by
  have hsz := h.run.mov.size
  have hgl := h.run.glt
  obtain ⟨bL', hLA, hgL, hVL, hNL, hokL, hwh⟩ : ∃ bL', LA w' AL bL' left ∧ g ≠ bL' ∧ bV ≠ bL' ∧ bL' ≠ bN ∧ (∀ b, ok b → b ≠ bL') ∧ (bL' = bL ∧ bL' < w.heap.size ∨ m = 0 ∧ w.heap.size ≤ bL') := by
    rcases h.run.hb with h0 | ⟨h1, h2, h3⟩
    · refine ⟨w'.heap.size, .inl (List.length_eq_zero_iff.1 (by rw [h.run.lL]; exact h0)), by omega, ?_, ?_, fun b hb => ?_, .inr ⟨h0, hsz⟩⟩
      · have := h.hV.lt; omega
      · have := h.hN.lt; omega
      · have := h.run.hok b hb; omega
    · exact ⟨bL, h.run.hL, fun e => h2 e.symm, by have := h.gbV; omega, by have := h.gbN; omega, h3, .inl ⟨rfl, h1⟩⟩
  have hcells : w'.heap[g]? = some (.cells #[.int .i64 (E.length : Int), .slice AT tt.length cT, .slice AL m cL, .slice (some ⟨bE, 0, none⟩) E.length cE] 174 (0, 0)) := by
    rw [← h.run.lL]
    exact h.run.hg
  have hgV : g ≠ bV := by have := h.gbV; omega
  have hgN : g ≠ bN := by have := h.gbN; omega
  have hc := push_callsS g bE cE AT AL cT cL bL' bV bN E tt V (fun b => ok b ∨ b = bV) (by
      rintro b (hb | rfl)
      · exact ⟨hokL b hb, by have := h.run.hok b hb; have := h.gbN; omega⟩
      · exact ⟨hVL, h.ne⟩) ⟨hgL, hgN⟩ hNL m k 0 top left next w' r left2 next2 hcells (Kd.F_mono h.run.fE (fun _ hk => .inl hk)) (Kd.F_mono h.run.fT (fun _ hk => .inl hk)) (Kd.F_mono (h.hV.F (by rw [h.lV]; have := h.big; omega)) (fun _ hk => .inr hk)) hLA h.hN h.run.lL h.lN hp
  rw [h.lV] at hc
  refine hc.mono ?_
  rintro e w2 ⟨rfl, hI⟩
  have hk := hI.mov
  refine ⟨rfl, {
    run := {
      hg := ?_
      fE := Kd.F_kept h.run.fE hk.kept (fun b hb h1 => h1.elim (hokL b hb) (fun e => by have := h.run.hok b hb; have := h.gbN; omega))
      fT := Kd.F_kept h.run.fT hk.kept (fun b hb h1 => h1.elim (hokL b hb) (fun e => by have := h.run.hok b hb; have := h.gbN; omega))
      hL := ?_
      lL := hI.lL
      mm := h.run.mm
      hb := h.run.hb
      hok := h.run.hok
      glt := h.run.glt
      mov := h.run.mov.trans hk ?_ }
    hV := h.hV.move (hk.kept.2 bV h.hV.lt (fun h1 => h1.elim hVL h.ne))
    hN := hI.hN
    lV := h.lV
    lN := hI.lN
    gbV := h.gbV
    gbN := h.gbN
    ne := h.ne
    big := h.big }⟩
  · have h1 := hk.blk h.run.hg (fun h1 => h1.elim hgL hgN)
    rw [mfCells, h.run.lL] at h1
    rw [mfCells, hI.lL]
    exact h1
  · rcases hwh with ⟨h1, _⟩ | ⟨h1, _⟩
    · rw [← h1]; exact hI.hL
    · exact .inl (List.length_eq_zero_iff.1 (by rw [hI.lL]; exact h1))
  · rintro b (rfl | rfl)
    · rcases hwh with ⟨h1, _⟩ | ⟨_, h1⟩
      · exact .inl h1
      · exact .inr h1
    · exact .inr h.gbN
theorem lv_big {k : Nat} {E : List (List Int)} {tt left : List Int} {r : List Int} (h : lv k E tt left = some r) : 0 < E.length ∧ E.length ≤ 1000000 := by
  unfold lv at h
  by_cases hn : 0 < E.length ∧ E.length ≤ 1000000
  · exact hn
  · rw [if_neg hn] at h
    cases h
def SRunPost (w : World) (g bE cE : Nat) (AT AL : Option Addr) (cT cL bL : Nat) (E : List (List Int)) (tt : List Int) (m : Nat) (ok : Nat → Prop) (r : Int) (left : List Int) (e : Ending) (w' : World) : Prop :=
  e = .returned (.int .i64 r) ∧ SRun w w' g bE cE AT AL cT cL bL E tt left m ok
set_option maxHeartbeats 8000000 in
set_option maxRecDepth 100000 in
theorem run_callsS (k : Nat) (g bE cE : Nat) (AT AL : Option Addr) (cT cL bL : Nat) (E : List (List Int)) (tt left : List Int) (m : Nat) (ok : Nat → Prop) (w : World) (r : Int) (left' : List Int)
    (hI : SRun w w g bE cE AT AL cT cL bL E tt left m ok) (h : runS E tt k 0 left = some (r, left')) :
    Calls Try.prog 155 #[.pointer (some ⟨g, 0, none⟩)] w (SRunPost w g bE cE AT AL cT cL bL E tt m ok r left') := by
  have H := Aside0.mk h
  have HJ := Aside0.mk hI
  clear h hI
  go_enter Try.func155, Try.ntmps155
  go_wp2
  go_loopg [3] k (fun kq v3 w' => ∃ (sum1 : Int) (left1 : List Int), v3 = .int .i64 sum1 ∧ Aside0 (runS E tt kq sum1 left1 = some (r, left')) ∧ Aside0 (SRun w w' g bE cE AT AL cT cL bL E tt left1 m ok))
  case atStart => exact ⟨0, left, rfl, H, HJ⟩
  case round =>
    clear H HJ
    obtain ⟨sum1, left1, rfl, H, HJ⟩ := hrel
    cases gk with
    | zero => exact absurd H.out (by simp [runS])
    | succ k1 =>
      have h := H.out
      simp only [runS] at h
      obtain ⟨V, hf, h⟩ := Option.bind_eq_some_iff.mp h
      have HBG := Aside0.mk (lv_big hf)
      have HC := Aside0.mk (HJ.out.levels hf)
      by_cases hin : inb (wrap64 ((E.length : Int) - 1)) V
      · rw [if_pos hin] at h
        have HIN := Aside0.mk hin
        obtain ⟨X, hX⟩ : ∃ X, X = rd V (wrap64 ((E.length : Int) - 1)) := ⟨_, rfl⟩
        rw [← hX] at h
        have HX := Aside0.mk hX
        have p0 : (0 ≤ wrap64 ((E.length : Int) - 1)) = True := eq_true hin.1
        clear H hf hX hin
        by_cases hx : X < 0
        · rw [if_pos hx] at h
          simp only [Option.some.injEq, Prod.mk.injEq] at h
          obtain ⟨rfl, rfl⟩ := h
          have cx : decide (X < 0) = true := decide_eq_true hx
          clear hx
          go_wp2_with (first
            | ((with_reducible refine gate_callee (f := 156) rfl ?_); go_must (refine goesL_ (some 8) rfl rfl Try.func156 (by kernel_rfl) rfl #[.pointer (some ⟨g, 0, none⟩)] rfl (by (try simp only [List.map_toArray, List.map_cons, List.map_nil]); rfl) ?_; refine HC.out.mono ?_; rintro e_ w2 ⟨bV, rfl, hV, lV, gbV, hB⟩; refine ⟨_, rfl, ?_⟩; have HJ2 := Aside0.mk (HJ.out.later hB); have p1 : (wrap64 ((E.length : Int) - 1) < (E.length : Int)) = True := eq_true (by have h_ := HIN.out.2; rw [lV] at h_; exact h_); have cV := IA.at_ hV _ HIN.out.1 HIN.out.2; rw [← HX.out] at cV; have c0 := blk_cell HJ2.out.hg 0 _ rfl; clear hV lV gbV hB HC HJ))
            )
          go_ret
          exact ⟨rfl, HJ2.out⟩
        · rw [if_neg hx] at h
          obtain ⟨⟨sum2, left2, next2⟩, hp, h⟩ := Option.bind_eq_some_iff.mp h
          replace h : runS E tt k1 sum2 left2 = some (r, left') := h
          have HP := Aside0.mk hp
          have H3 := Aside0.mk h
          have cx : decide (X < 0) = false := decide_eq_false hx
          clear h hp hx
          go_wp2_with (first
            | ((with_reducible refine gate_callee (f := 156) rfl ?_); go_must (refine goesL_ (some 8) rfl rfl Try.func156 (by kernel_rfl) rfl #[.pointer (some ⟨g, 0, none⟩)] rfl (by (try simp only [List.map_toArray, List.map_cons, List.map_nil]); rfl) ?_; refine HC.out.mono ?_; rintro e_ w2 ⟨bV, rfl, hV, lV, gbV, hB⟩; refine ⟨_, rfl, ?_⟩; have HJ2 := Aside0.mk (HJ.out.later hB); have p1 : (wrap64 ((E.length : Int) - 1) < (E.length : Int)) = True := eq_true (by have h_ := HIN.out.2; rw [lV] at h_; exact h_); have cV := IA.at_ hV _ HIN.out.1 HIN.out.2; rw [← HX.out] at cV; have c0 := blk_cell HJ2.out.hg 0 _ rfl; have HV := Aside0.mk hV; have HLV := Aside0.mk lV; have HGV : Aside0 (w.heap.size ≤ bV) := ⟨Nat.le_trans HJ.out.mov.size gbV⟩; clear hV lV gbV hB HC HJ))
            | ((with_reducible refine gate_dst (N := 23) rfl ?_); go_must (refine ev_make (enc := Value.int .i64) (0 : Int) rfl (N := 23) rfl 23 3 _ _ rfl E.length rfl rfl Try.underlying23 8 info3 ⟨rfl, rfl⟩ (by have := HBG.out.2; omega) (by have := HBG.out.2; omega) ?_; intro w3 hA hb hs; have HP4 : Aside0 (SPh w w3 g bE cE AT AL cT cL bL E tt left1 m ok bV w2.heap.size V (List.replicate E.length 0)) := ⟨⟨HJ2.out.later hb, HV.out.below hb, hA, HLV.out, by simp, HGV.out, HJ2.out.mov.size, by have := HV.out.lt; omega, HBG.out.2⟩⟩; clear hA hb hs c0 cV HJ2 HV))
            )
          clear HGV p0 p1
          go_loopg [3] k1 (fun kq v3 w' => ∃ (sum3 : Int) (left3 next3 : List Int), v3 = .int .i64 sum3 ∧ Aside0 (phase E tt V 1125899906842624 kq sum3 left3 next3 = some (sum2, left2, next2)) ∧ Aside0 (SPh w w' g bE cE AT AL cT cL bL E tt left3 m ok bV w2.heap.size V next3))
          case atStart => exact ⟨sum1, left1, _, rfl, HP, HP4⟩
          case round =>
            clear HP HP4
            obtain ⟨sum3, left3, next3, rfl, HP, HP4⟩ := hrel
            cases gk with
            | zero => exact absurd HP.out (by simp [phase])
            | succ k2 =>
              have h := HP.out
              simp only [phase] at h
              obtain ⟨⟨s, left4, next4⟩, hq, h⟩ := Option.bind_eq_some_iff.mp h
              replace h : (if s = 0 then some (sum3, left4, next4) else phase E tt V 1125899906842624 k2 (wrap64 (sum3 + s)) left4 next4) = some (sum2, left2, next2) := h
              have HC := Aside0.mk (HP4.out.push hq)
              by_cases hs : s = 0
              · rw [if_pos hs] at h
                simp only [Option.some.injEq, Prod.mk.injEq] at h
                obtain ⟨rfl, rfl, rfl⟩ := h
                have cs : (s == 0) = true := beq_iff_eq.mpr hs
                clear hq hs HP
                go_wp2_with (first
                  | ((with_reducible refine gate_callee (f := 159) rfl ?_); go_must (refine goesL_ (some 27) rfl rfl Try.func159 (by kernel_rfl) rfl #[.pointer (some ⟨g, 0, none⟩), .int .i64 0, .int .i64 1125899906842624, .slice (some ⟨bV, 0, none⟩) E.length E.length, .slice (some ⟨w2.heap.size, 0, none⟩) E.length E.length] rfl (by (try simp only [List.map_toArray, List.map_cons, List.map_nil]); rfl) ?_; refine HC.out.mono ?_; rintro e_ w5 ⟨rfl, hI⟩; refine ⟨_, rfl, ?_⟩; have HP5 := Aside0.mk hI; clear hI HC HP4))
                  )
                go_roundg k1
                case measure => omega
                case rel => exact ⟨_, _, rfl, H3, ⟨HP5.out.run⟩⟩
              · rw [if_neg hs] at h
                have cs : (s == 0) = false := beq_eq_false_iff_ne.mpr hs
                have H4 := Aside0.mk h
                clear hq hs HP h
                go_wp2_with (first
                  | ((with_reducible refine gate_callee (f := 159) rfl ?_); go_must (refine goesL_ (some 27) rfl rfl Try.func159 (by kernel_rfl) rfl #[.pointer (some ⟨g, 0, none⟩), .int .i64 0, .int .i64 1125899906842624, .slice (some ⟨bV, 0, none⟩) E.length E.length, .slice (some ⟨w2.heap.size, 0, none⟩) E.length E.length] rfl (by (try simp only [List.map_toArray, List.map_cons, List.map_nil]); rfl) ?_; refine HC.out.mono ?_; rintro e_ w5 ⟨rfl, hI⟩; refine ⟨_, rfl, ?_⟩; have HP5 := Aside0.mk hI; clear hI HC HP4))
                  )
                go_roundg k2
                case measure => omega
                case rel => exact ⟨_, _, _, rfl, H4, HP5⟩
      · rw [if_neg hin] at h
        cases h
end Go.Proofs.Ytclpjlaielphfaa.Flow
end
