/- Used by the claim's last text. -/
import Derived.Test.YtclpjlaielphfaaDrpFlow4
section
namespace Go.Proofs.Ytclpjlaielphfaa.Flow
open Go Go.RowKit Go.Proofs.YtclpjlaielphfaaW.PrintWords Go.Proofs.YtclpjlaielphfaaW.PrintLast Go.Proofs.YtclpjlaielphfaaW.PrintMore
attribute [local go_sem] max2_int min2_int max_two min_two
set_option linter.unusedVariables false
set_option linter.unusedSimpArgs false
theorem least_calls (a b : Int) (w : World) : Calls Try.prog 93 #[.int .i64 a, .int .i64 b] w (fun e w' => e = .returned (.int .i64 (mn a b)) ∧ w' = w) := by
  go_enter Try.func93, Try.ntmps93
  by_cases h : a < b
  · have c : decide (a < b) = true := decide_eq_true h
    have h2 : mn a b = a := by unfold mn; rw [if_neg (by omega)]
    rw [h2]
    clear h
    go_wp2
    go_ret
    exact ⟨rfl, rfl⟩
  · have c : decide (a < b) = false := decide_eq_false h
    have h2 : mn a b = b := by unfold mn; split <;> omega
    rw [h2]
    clear h
    go_wp2
    go_ret
    exact ⟨rfl, rfl⟩
set_option maxHeartbeats 8000000 in
set_option maxRecDepth 100000 in
theorem push_callsS (g bE cE : Nat) (AT AL : Option Addr) (cT cL bL bV bN : Nat) (E : List (List Int)) (tt V : List Int) (ok : Nat → Prop) (hok : ∀ b, ok b → b ≠ bL ∧ b ≠ bN) (hgb : g ≠ bL ∧ g ≠ bN) (hne : bL ≠ bN) (m : Nat) :
    ∀ (k : Nat) (a most : Int) (left next : List Int) (w : World) (r : Int) (left' next' : List Int),
    w.heap[g]? = some (.cells #[.int .i64 (E.length : Int), .slice AT tt.length cT, .slice AL m cL, .slice (some ⟨bE, 0, none⟩) E.length cE] 174 (0, 0)) →
    Kd.F (Kd.slice 3 (Kd.int .i64)) w ok (some ⟨bE, 0, none⟩) E.length E → Kd.F (Kd.int .i64) w ok AT tt.length tt → Kd.F (Kd.int .i64) w ok (some ⟨bV, 0, none⟩) V.length V →
    LA w AL bL left → IA w bN next → left.length = m → next.length = E.length →
    push E tt V k a most left next = some (r, left', next') →
    Calls Try.prog 159 #[.pointer (some ⟨g, 0, none⟩), .int .i64 a, .int .i64 most, .slice (some ⟨bV, 0, none⟩) V.length V.length, .slice (some ⟨bN, 0, none⟩) E.length E.length] w (PushPost w AL bL bN E.length m r left' next') := by
  intro k
  induction k using Nat.strongRecOn with
  | _ k ih =>
  intro a most left next w r left' next' hg fE fT fV hL hN lL lN h
  cases k with
  | zero => exact absurd h (by simp [push])
  | succ k =>
  simp only [push] at h
  have IH := Aside0.mk ih
  have HOK := Aside0.mk hok
  have HGB := Aside0.mk hgb
  have HNE := Aside0.mk hne
  have HG := Aside0.mk hg
  have HFE := Aside0.mk fE
  have HFT := Aside0.mk fT
  have HFV := Aside0.mk fV
  have h0 : w.cell? ⟨g, 0, none⟩ = some (.int .i64 (E.length : Int)) := blk_cell hg 0 _ rfl
  have HJ : Aside0 (PushInv w w AL bL bN E.length m left next) := ⟨⟨hL, hN, lL, lN, Mov.refl _ _⟩⟩
  clear ih hok hgb hne hg fE fT fV hL hN lL lN
  by_cases ha : a = wrap64 ((E.length : Int) - 1)
  · rw [if_pos ha] at h
    simp only [Option.some.injEq, Prod.mk.injEq] at h
    obtain ⟨rfl, rfl, rfl⟩ := h
    have c1 : (a == wrap64 ((E.length : Int) - 1)) = true := beq_iff_eq.mpr ha
    clear ha
    go_enter Try.func159, Try.ntmps159
    go_wp2
    go_ret
    exact ⟨rfl, HJ.out⟩
  · rw [if_neg ha] at h
    have c1 : (a == wrap64 ((E.length : Int) - 1)) = false := beq_eq_false_iff_ne.mpr ha
    have H := Aside0.mk h
    clear ha h
    go_enter Try.func159, Try.ntmps159
    go_wp2
    go_loopg [11] k (fun kq v11 w' => ∃ (left1 next1 : List Int), Aside0 (pushL E tt V kq a most left1 next1 = some (r, left', next')) ∧ Aside0 (kq ≤ k) ∧ Aside0 (PushInv w w' AL bL bN E.length m left1 next1))
    case atStart => exact ⟨left, next, H, ⟨Nat.le_refl _⟩, HJ⟩
    case round =>
      clear H HJ h0 c1
      obtain ⟨left1, next1, H, HK, HJ⟩ := hrel
      cases gk with
      | zero => exact absurd H.out (by simp [pushL])
      | succ k1 =>
        have h := H.out
        simp only [pushL] at h
        by_cases ha : inb a next1 ∧ inb a E
        · rw [if_pos ha] at h
          obtain ⟨⟨ha1, ha2⟩, ha3, ha4⟩ := ha
          have hmov := HJ.out.mov
          have hg := hmov.blk HG.out (fun h1 => h1.elim HGB.out.1 HGB.out.2)
          have hS : ∀ b, ok b → ¬ (b = bL ∨ b = bN) := fun b hb h1 => h1.elim (HOK.out b hb).1 (HOK.out b hb).2
          have fE := Kd.F_kept HFE.out hmov.kept hS
          have fT := Kd.F_kept HFT.out hmov.kept hS
          have fV := Kd.F_kept HFV.out hmov.kept hS
          have c0 : wr.cell? ⟨g, 3, none⟩ = some (.slice (some ⟨bE, 0, none⟩) E.length cE) := blk_cell hg 3 _ rfl
          have cN := IA.at_ HJ.out.hN a ha1 ha2
          obtain ⟨adE, B, cB, hadE, hcB, hlB, hFB⟩ := F_row fE a ha3 ha4
          cases hadE
          rw [add_plain] at hcB
          obtain ⟨R, hR⟩ : ∃ R, R = rowAt E a := ⟨_, rfl⟩
          have hR' : E.getD a.toNat [] = R := hR.symm
          rw [hR'] at hcB hlB hFB
          obtain ⟨X, hX⟩ : ∃ X, X = rd next1 a := ⟨_, rfl⟩
          rw [← hX] at cN
          have hed : edgeAt E next1 a = rd R X := by rw [edgeAt, ← hR, ← hX]
          rw [hed, ← hR, ← hX] at h
          have HG1 := Aside0.mk hg
          have FE1 := Aside0.mk fE
          have FT1 := Aside0.mk fT
          have FV1 := Aside0.mk fV
          have FB1 := Aside0.mk hFB
          have HX := Aside0.mk hX
          have A1 : Aside0 (inb a next1 ∧ inb a E) := ⟨⟨ha1, ha2⟩, ha3, ha4⟩
          have HLN : Aside0 (next1.length = E.length) := ⟨HJ.out.lN⟩
          rw [HJ.out.lN] at ha2
          clear hmov hg hS fE fT fV hFB hR hR' hX hed H
          by_cases hlt : X < (R.length : Int)
          · rw [if_pos hlt] at h
            have cX : decide (X < (R.length : Int)) = true := decide_eq_true hlt
            replace ha1 := eq_true ha1
            replace ha4 := eq_true ha4
            by_cases h5 : 0 ≤ X ∧ inb (rd R X) left1 ∧ inb (rd R X) tt ∧ inb a V
            · rw [if_pos h5] at h
              obtain ⟨hX0, hl, ht, hv⟩ := h5
              obtain ⟨adB, hadB, hce⟩ := F_int FB1.out X hX0 hlt
              subst hadB
              obtain ⟨e, he⟩ : ∃ e, e = rd R X := ⟨_, rfl⟩
              rw [← he] at hce hl ht h
              have HLL := HJ.out.hL.in_ hl
              obtain ⟨hAL, hLA⟩ := HLL
              subst hAL
              have c2 : wr.cell? ⟨g, 2, none⟩ = some (.slice (some ⟨bL, 0, none⟩) m cL) := blk_cell HG1.out 2 _ rfl
              have cL1 := IA.at_ hLA e hl.1 hl.2
              obtain ⟨L, hL⟩ : ∃ L, L = rd left1 e := ⟨_, rfl⟩
              rw [← hL] at cL1 h
              have HI5 : Aside0 ((inb e left1 ∧ inb e tt) ∧ inb a V) := ⟨⟨hl, ht⟩, hv⟩
              obtain ⟨q1, q2⟩ := hl
              rw [HJ.out.lL] at q2
              have HE := Aside0.mk he
              have HLe := Aside0.mk hL
              have HLT := Aside0.mk hlt
              have HX0 := Aside0.mk hX0
              by_cases hL0 : L = 0
              · rw [if_pos hL0] at h
                have cL0 : (L == 0) = true := beq_iff_eq.mpr hL0
                have H1 := Aside0.mk h
                have fN := HJ.out.hN.free a.toNat
                have HJ2 : Aside0 (∀ n : Nat, PushInv w ((wr.drewN n).setCell ⟨bN, a.toNat, none⟩ (.int .i64 (wrap64 (X + 1)))) (some ⟨bL, 0, none⟩) bL bN E.length m left1 (step next1 a)) := ⟨fun n => by rw [step, ← HX.out]; exact (HJ.out.later (pw_below_drewN (Below.refl _ _) n)).setN HNE.out a _ A1.out.1⟩
                clear h ha2 ha3 ht hv he hL hLA hL0
                replace hlt := eq_true hlt
                replace hX0 := eq_true hX0
                replace q1 := eq_true q1
                replace q2 := eq_true q2
                go_wp2
                go_quiet (fail)
                go_wp2
                go_quiet (fail)
                go_wp2
                go_quiet (fail)
                go_wp2
                go_roundg k1
                case measure => omega
                case rel => exact ⟨left1, step next1 a, H1, ⟨by have := HK.out; omega⟩, ⟨HJ2.out _⟩⟩
              · rw [if_neg hL0] at h
                have cL0 : (L == 0) = false := beq_eq_false_iff_ne.mpr hL0
                by_cases hT : inb (rd tt e) V
                · rw [if_pos hT] at h
                  obtain ⟨adT, hadT, hcT⟩ := F_int FT1.out e ht.1 ht.2
                  subst hadT
                  obtain ⟨T, hTe⟩ : ∃ T, T = rd tt e := ⟨_, rfl⟩
                  rw [← hTe] at hcT hT h
                  obtain ⟨adV, hadV, hcV⟩ := F_int FV1.out T hT.1 hT.2
                  cases hadV
                  obtain ⟨adV, hadV, hcW⟩ := F_int FV1.out a hv.1 hv.2
                  cases hadV
                  rw [add_plain] at hcV hcW
                  have c1 : wr.cell? ⟨g, 1, none⟩ = some (.slice (some adT) tt.length cT) := blk_cell HG1.out 1 _ rfl
                  obtain ⟨VT, hVT⟩ : ∃ VT, VT = rd V T := ⟨_, rfl⟩
                  obtain ⟨VA, hVA⟩ : ∃ VA, VA = rd V a := ⟨_, rfl⟩
                  rw [← hVT] at hcV h
                  rw [← hVA] at hcW h
                  have HTe := Aside0.mk hTe
                  obtain ⟨q3, q4⟩ := ht
                  obtain ⟨q5, q6⟩ := hT
                  obtain ⟨q7, q8⟩ := hv
                  by_cases hne : VT ≠ wrap64 (VA + 1)
                  · rw [if_pos hne] at h
                    have cV0 : (VT != wrap64 (VA + 1)) = true := bne_iff_ne.mpr hne
                    have H1 := Aside0.mk h
                    have fN := HJ.out.hN.free a.toNat
                    have HJ2 : Aside0 (∀ n : Nat, PushInv w ((wr.drewN n).setCell ⟨bN, a.toNat, none⟩ (.int .i64 (wrap64 (X + 1)))) (some ⟨bL, 0, none⟩) bL bN E.length m left1 (step next1 a)) := ⟨fun n => by rw [step, ← HX.out]; exact (HJ.out.later (pw_below_drewN (Below.refl _ _) n)).setN HNE.out a _ A1.out.1⟩
                    clear h ha2 ha3 he hL hLA hL0 hne hTe hVT hVA
                    replace hlt := eq_true hlt
                    replace hX0 := eq_true hX0
                    replace q1 := eq_true q1
                    replace q2 := eq_true q2
                    replace q3 := eq_true q3
                    replace q4 := eq_true q4
                    replace q5 := eq_true q5
                    replace q6 := eq_true q6
                    replace q7 := eq_true q7
                    replace q8 := eq_true q8
                    go_wp2
                    go_quiet (fail)
                    go_wp2
                    go_quiet (fail)
                    go_wp2
                    go_quiet (fail)
                    go_wp2
                    go_roundg k1
                    case measure => omega
                    case rel => exact ⟨left1, step next1 a, H1, ⟨by have := HK.out; omega⟩, ⟨HJ2.out _⟩⟩
                  · rw [if_neg hne] at h
                    have cV0 : (VT != wrap64 (VA + 1)) = false := by simpa using hne
                    obtain ⟨⟨s, left2, next2⟩, hp, h⟩ := Option.bind_eq_some_iff.mp h
                    replace h : (if 0 < s then pushT e s left2 next2 else if inb a next2 then pushL E tt V k1 a most left2 (step next2 a) else none) = some (r, left', next') := h
                    have HP := Aside0.mk hp
                    have H1 := Aside0.mk h
                    clear h hp ha2 ha3 he hL hLA hL0 hne hTe hVT hVA
                    replace hlt := eq_true hlt
                    replace hX0 := eq_true hX0
                    replace q1 := eq_true q1
                    replace q2 := eq_true q2
                    replace q3 := eq_true q3
                    replace q4 := eq_true q4
                    replace q5 := eq_true q5
                    replace q6 := eq_true q6
                    replace q7 := eq_true q7
                    replace q8 := eq_true q8
                    go_wp2
                    go_quiet (fail)
                    go_wp2
                    go_quiet (fail)
                    go_wp2
                    go_quiet (fail)
                    go_wp2
                    refine at_world (P := fun w_ => Code.wp _ _ _ _ w_) _ (fun w5 hw5 => ?_)
                    have HB5 : Aside0 (Below wr.heap.size wr w5) := ⟨by rw [hw5]; exact below_then (pw_below_drewN (Below.refl _ _) _) (Nat.le_refl _) (below_then (pw_below_drewN (Below.refl _ _) _) (Nat.le_refl _) (pw_below_drewN (Below.refl _ _) _))⟩
                    clear hw5 c0 c1 c2 cN hcB hce cL1 hcT hcV hcW
                    have c1 : w5.cell? ⟨g, 1, none⟩ = some (.slice (some adT) tt.length cT) := blk_cell (blk_below' HG1.out HB5.out) 1 _ rfl
                    have c2 : w5.cell? ⟨g, 2, none⟩ = some (.slice (some ⟨bL, 0, none⟩) m cL) := blk_cell (blk_below' HG1.out HB5.out) 2 _ rfl
                    have cL1 : w5.cell? ⟨bL, e.toNat, none⟩ = some (.int .i64 L) := by
                      rw [HLe.out]
                      exact IA.at_ ((HJ.out.hL.in_ HI5.out.1.1).2.below HB5.out) e HI5.out.1.1.1 HI5.out.1.1.2
                    have hcT : w5.cell? (adT.add e.toNat) = some (.int .i64 T) := by
                      obtain ⟨ad_, h1_, h2_⟩ := F_int (Kd.F_below FT1.out HB5.out) e HI5.out.1.2.1 HI5.out.1.2.2
                      cases h1_
                      rw [HTe.out]
                      exact h2_
                    go_wp2
                    go_still_tail 19, (by kernel_rfl)
                    still_call (least_calls most L w5.drew)
                    repeat still_step
                    refine wpStill_nil ?_
                    refine at_world (P := fun w_ => wpList _ _ _ _ _ w_) w5.drew (fun w6 hw6 => ?_)
                    have HB6 : Aside0 (Below wr.heap.size wr w6) := ⟨by rw [hw6]; exact below_drew HB5.out⟩
                    have HJ6 := Aside0.mk (HJ.out.later HB6.out)
                    have HC : Aside0 (Calls Try.prog 159 #[.pointer (some ⟨g, 0, none⟩), .int .i64 T, .int .i64 (mn most L), .slice (some ⟨bV, 0, none⟩) V.length V.length, .slice (some ⟨bN, 0, none⟩) E.length E.length] w6 (PushPost w6 (some ⟨bL, 0, none⟩) bL bN E.length m s left2 next2)) := ⟨IH.out k1 (by have := HK.out; omega) _ _ _ _ _ _ _ _ (blk_below' HG1.out HB6.out) (Kd.F_below FE1.out HB6.out) (Kd.F_below FT1.out HB6.out) (Kd.F_below FV1.out HB6.out) HJ6.out.hL HJ6.out.hN HJ6.out.lL HJ6.out.lN HP.out⟩
                    clear hw6 HB5 HB6 HJ FE1 FT1 FV1 FB1 HG1 c1 c2 cL1 hcT
                    by_cases hs : 0 < s
                    · have h := H1.out
                      rw [if_pos hs, pushT] at h
                      by_cases h8 : inb e left2
                      · rw [if_pos h8] at h
                        by_cases h9 : inb (back e) left2
                        · rw [if_pos h9] at h
                          simp only [Option.some.injEq, Prod.mk.injEq] at h
                          obtain ⟨rfl, rfl, rfl⟩ := h
                          have cs : decide (0 < s) = true := decide_eq_true hs
                          have H8 := Aside0.mk h8
                          have H9 := Aside0.mk h9
                          obtain ⟨r1, r2⟩ := h9
                          have HM2 : Aside0 (left2.length = m) := ⟨((push_len E tt V k1).1 _ _ _ _ _ _ _ HP.out).1.trans HJ6.out.lL⟩
                          rw [HM2.out] at r2
                          replace r1 : (0 ≤ Go.bits .xor .i64 e 1) = True := eq_true r1
                          replace r2 : (Go.bits .xor .i64 e 1 < (m : Int)) = True := eq_true r2
                          clear h8 hs H1
                          go_wp2_with (first
                            | ((with_reducible refine gate_callee (f := 159) rfl ?_); go_must (refine goesL_ (some 98) rfl rfl Try.func159 (by kernel_rfl) rfl #[.pointer (some ⟨g, 0, none⟩), .int .i64 T, .int .i64 (mn most L), .slice (some ⟨bV, 0, none⟩) V.length V.length, .slice (some ⟨bN, 0, none⟩) E.length E.length] rfl (by (try simp only [List.map_toArray, List.map_cons, List.map_nil]); rfl) ?_; refine HC.out.mono ?_; rintro e_ w7 ⟨rfl, hI⟩; refine ⟨_, rfl, ?_⟩; have HJ7 := Aside0.mk (HJ6.out.step2 hI); clear hI HC HJ6; have c2 : w7.cell? ⟨g, 2, none⟩ = some (.slice (some ⟨bL, 0, none⟩) m cL) := blk_cell (HJ7.out.mov.blk HG.out (fun h1 => h1.elim HGB.out.1 HGB.out.2)) 2 _ rfl; have cL1 := IA.at_ (HJ7.out.hL.in_ H8.out).2 e H8.out.1 H8.out.2; have fL1 := (HJ7.out.hL.in_ H8.out).2.free e.toNat))
                            | ((with_reducible refine gate_store (t := 3) (p := 110) rfl ?_); go_must (refine store_event (t := 3) (p := 110) (v := ?v8) (w1 := w7.setCell ⟨bL, e.toNat, none⟩ (.int .i64 (wrap64 (rd left2 e - s)))) ?hg ?ho ?hn ?hr ?_; (case ho => rfl); (case hg => rfl); (case hn => rfl); (case hr => first | (go_simp; done) | (go_simp; rfl)); intro w8 hw8; have HJ8 : Aside0 (PushInv w w8 (some ⟨bL, 0, none⟩) bL bN E.length m (left2.set e.toNat (wrap64 (rd left2 e - s))) next2) := ⟨by rw [hw8]; exact HJ7.out.setL HNE.out e _ H8.out⟩; clear hw8 HJ7 c2 cL1 fL1; have H9b : Aside0 (inb (back e) (left2.set e.toNat (wrap64 (rd left2 e - s)))) := ⟨by rw [inb, List.length_set]; exact H9.out⟩; have c2 : w8.cell? ⟨g, 2, none⟩ = some (.slice (some ⟨bL, 0, none⟩) m cL) := blk_cell (HJ8.out.mov.blk HG.out (fun h1 => h1.elim HGB.out.1 HGB.out.2)) 2 _ rfl; have cL1 : w8.cell? ⟨bL, (Go.bits .xor .i64 e 1).toNat, none⟩ = some (.int .i64 (rd (left2.set e.toNat (wrap64 (rd left2 e - s))) (back e))) := IA.at_ (HJ8.out.hL.in_ H9b.out).2 (back e) H9b.out.1 H9b.out.2; have fL1 : w8.frozen? ⟨bL, (Go.bits .xor .i64 e 1).toNat, none⟩ = false := (HJ8.out.hL.in_ H9b.out).2.free _))
                            | ((with_reducible refine gate_store (t := 3) (p := 121) rfl ?_); go_must (refine store_event (t := 3) (p := 121) (v := ?v9) (w1 := w8.setCell ⟨bL, (back e).toNat, none⟩ (.int .i64 (wrap64 (rd (left2.set e.toNat (wrap64 (rd left2 e - s))) (back e) + s)))) ?hg ?ho ?hn ?hr ?_; (case ho => rfl); (case hg => rfl); (case hn => rfl); (case hr => first | (go_simp; done) | (go_simp; rfl)); intro w9 hw9; have HJ9 : Aside0 (PushInv w w9 (some ⟨bL, 0, none⟩) bL bN E.length m ((left2.set e.toNat (wrap64 (rd left2 e - s))).set (back e).toNat (wrap64 (rd (left2.set e.toNat (wrap64 (rd left2 e - s))) (back e) + s))) next2) := ⟨by rw [hw9]; exact HJ8.out.setL HNE.out (back e) _ H9b.out⟩; clear hw9 HJ8 c2 cL1 fL1))
                            )
                          all_goals (go_ret; exact ⟨rfl, HJ9.out⟩)
                        · rw [if_neg h9] at h
                          cases h
                      · rw [if_neg h8] at h
                        cases h
                    · have h := H1.out
                      rw [if_neg hs] at h
                      by_cases h8 : inb a next2
                      · rw [if_pos h8] at h
                        have cs : decide (0 < s) = false := decide_eq_false hs
                        have H8 := Aside0.mk h8
                        have H2 := Aside0.mk h
                        clear h8 hs H1 h
                        go_wp2_with (first
                          | ((with_reducible refine gate_callee (f := 159) rfl ?_); go_must (refine goesL_ (some 98) rfl rfl Try.func159 (by kernel_rfl) rfl #[.pointer (some ⟨g, 0, none⟩), .int .i64 T, .int .i64 (mn most L), .slice (some ⟨bV, 0, none⟩) V.length V.length, .slice (some ⟨bN, 0, none⟩) E.length E.length] rfl (by (try simp only [List.map_toArray, List.map_cons, List.map_nil]); rfl) ?_; refine HC.out.mono ?_; rintro e_ w7 ⟨rfl, hI⟩; refine ⟨_, rfl, ?_⟩; have HJ7 := Aside0.mk (HJ6.out.step2 hI); clear hI HC HJ6; have cN := IA.at_ HJ7.out.hN a H8.out.1 H8.out.2; have fN := HJ7.out.hN.free a.toNat))
                          | ((with_reducible refine gate_store (t := 3) (p := 39) rfl ?_); go_must (refine store_event (t := 3) (p := 39) (v := ?v10) (w1 := w7.setCell ⟨bN, a.toNat, none⟩ (.int .i64 (wrap64 (rd next2 a + 1)))) ?hg ?ho ?hn ?hr ?_; (case ho => rfl); (case hg => rfl); (case hn => rfl); (case hr => first | (go_simp; done) | (go_simp; rfl)); intro w8 hw8; have HJ8 : Aside0 (PushInv w w8 (some ⟨bL, 0, none⟩) bL bN E.length m left2 (step next2 a)) := ⟨by rw [hw8]; exact HJ7.out.setN HNE.out a _ H8.out⟩; clear hw8 HJ7 cN fN))
                          )
                        all_goals (go_roundg k1; (case measure => omega); (case rel => exact ⟨left2, step next2 a, H2, ⟨by have := HK.out; omega⟩, HJ8⟩))
                      · rw [if_neg h8] at h
                        cases h
                · rw [if_neg hT] at h
                  cases h
            · rw [if_neg h5] at h
              cases h
          · rw [if_neg hlt] at h
            simp only [Option.some.injEq, Prod.mk.injEq] at h
            obtain ⟨rfl, rfl, rfl⟩ := h
            have cX : decide (X < (R.length : Int)) = false := decide_eq_false hlt
            replace ha1 := eq_true ha1
            replace ha4 := eq_true ha4
            clear ha2 ha3 hlt
            go_wp2
            go_quiet (fail)
            go_wp2
            go_ret
            exact ⟨rfl, HJ.out.later (pw_below_drewN (Below.refl _ _) nq)⟩
        · rw [if_neg ha] at h
          cases h
end Go.Proofs.Ytclpjlaielphfaa.Flow
end
