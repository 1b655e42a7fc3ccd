/- Used by the claim's last text. -/
import Derived.Test.YtclpjlaielphfaaChgPFx13
section
namespace Go.Proofs.Ytclpjlaielphfaa.PF
open Go Go.RowKit Go.Proofs.YtclpjlaielphfaaW.PrintWords Go.Proofs.YtclpjlaielphfaaW.PrintLast Go.Proofs.YtclpjlaielphfaaW.PrintMore
set_option linter.unusedVariables false
set_option linter.unusedSimpArgs false
def laws_markIntSS.l0 : Nat → List (List Int) → Int → Int → Option (Int × List (List Int))
  | 0, _, _, _ => none
  | k + 1, x0, x1, x5 => if x5 < (x0.length : Int) then (if 0 ≤ x5 then ((laws_markIntS.f k (x0.getD x5.toNat []) x1).bind fun r => laws_markIntSS.l0 k (x0.set x5.toNat r.2) r.1 (wrap64 (x5 + 1))) else none) else some (x1, x0)
def laws_markIntSS.f (k : Nat) (l0 : List (List Int)) (a1 : Int) : Option Int := (laws_markIntSS.l0 k l0 a1 0).map Prod.fst
theorem laws_markIntSS.mono_l : ∀ k, (∀ y0 y1 y2, LeO (laws_markIntSS.l0 k y0 y1 y2) (laws_markIntSS.l0 (k + 1) y0 y1 y2))
  | 0 => fun _ _ _ r h => by simp [laws_markIntSS.l0] at h
  | k + 1 => by
    have ih0 := laws_markIntSS.mono_l k
    intro y0 y1 y2
    rw [laws_markIntSS.l0, laws_markIntSS.l0]
    exact LeO.ite (LeO.ite (LeO.bind (laws_markIntS.mono _ _ _) fun _ => ih0 _ _ _) (LeO.refl _)) (LeO.refl _)
theorem laws_markIntSS.mono : ∀ a0 a1 k, LeO (laws_markIntSS.f k a0 a1) (laws_markIntSS.f (k + 1) a0 a1) := by
  intro a0 a1 k
  exact LeO.map _ (laws_markIntSS.mono_l k _ _ _)
abbrev KR2 : Kd (List Int) := Kd.slice 3 (Kd.int .i64)
set_option maxHeartbeats 8000000 in
set_option maxRecDepth 100000 in
theorem laws_markIntSS.calls (k : Nat) (P0_ : Nat → Prop) (u9000_ : Value) (l0 : List (List Int)) (a1 : Int) (r1 : Int) (w0 w : World) (hB : Below w0.heap.size w0 w) (ho0 : Kd.S KR2 23 w w0.heap.size P0_ u9000_ l0) (h : laws_markIntSS.f k l0 a1 = some r1) :
    Calls Try.prog 62 #[u9000_, .int .i64 a1] w fun e w' => e = .returned (.int .i64 r1) ∧ (∃ r2, Kd.S KR2 23 w' w0.heap.size P0_ u9000_ r2) ∧ Below w0.heap.size w0 w' ∧ Kept w w' (fun k_ => P0_ k_) := by
  obtain ⟨⟨q1, r2⟩, H, hq⟩ := Option.map_eq_some_iff.1 h
  obtain rfl : q1 = r1 := hq
  have HO0 := As.mk ho0
  have HK := As.mk (Kept.refl w (fun k_ => P0_ k_))
  have HB := As.mk hB
  have H' := As.mk H
  clear H h hB ho0
  go_enter Try.func62, Try.ntmps62
  go_wp2
  go_loopg [1, 5] k (fun kq v1 v5 w' => ∃ (x0_1 : List (List Int)) (x1_1 : Int) (x5_1 : Int), v1 = .int .i64 x1_1 ∧ v5 = .int .i64 x5_1 ∧ As (laws_markIntSS.l0 kq x0_1 x1_1 x5_1 = some (q1, r2)) ∧ As (kq ≤ k) ∧ As (Kd.S KR2 23 w' w0.heap.size P0_ u9000_ x0_1) ∧ As (Kept w w' (fun k_ => P0_ k_)) ∧ As (Below w0.heap.size w0 w'))
  case atStart => exact ⟨l0, a1, 0, rfl, rfl, H', ⟨Nat.le_refl _⟩, HO0, HK, HB⟩
  case round =>
    clear H' HO0 HK HB
    obtain ⟨x0_1, x1_1, x5_1, rfl, rfl, HA, HK1, HO_0, HK, HB⟩ := hrel
    cases gk with
    | zero => exact absurd HA.out (by simp [laws_markIntSS.l0])
    | succ k1 =>
      have H := HA.out
      clear HA
      rw [laws_markIntSS.l0] at H
      by_cases c3 : x5_1 < (x0_1.length : Int)
      · rw [if_pos c3] at H
        have c3b0 : decide (x5_1 < (x0_1.length : Int)) = true := decide_eq_true c3
        by_cases c4 : 0 ≤ x5_1
        · rw [if_pos c4] at H
          obtain ⟨⟨m1, m2⟩, hm, H⟩ := Option.bind_eq_some_iff.mp H
          have H' := As.mk H
          obtain ⟨ri, hri⟩ : ∃ ri, ri = x0_1.getD x5_1.toNat [] := ⟨_, rfl⟩
          have HRI := As.mk hri
          rw [← hri] at hm
          clear hri
          have HM := As.mk hm
          clear H hm
          obtain ⟨g, cap, eo, gb, gl, hc⟩ := Kd.S_form HO_0.out (by omega)
          subst eo
          obtain ⟨oki, c, hcl, hMi, hcc, hoki, hH⟩ := Kd.S_lend HO_0.out ([] : List Int) x5_1 c4 c3
          obtain ⟨vi, rfl, hR⟩ := hMi
          rw [← HRI.out] at hR
          have hx := hcc 0 vi rfl
          rw [show x5_1.toNat * KR2.sz + 0 = x5_1.toNat from Nat.mul_one _] at hx
          have HR := As.mk hR
          have HH := As.mk hH
          have HOK := As.mk hoki
          obtain ⟨Ai, ci, ei⟩ := Kd.R_slice hR
          subst ei
          clear hcc hcl hR hH hoki hc gb gl
          replace c4 := eq_true c4
          replace c3 := eq_true c3
          go_wp2_with (first | ((with_reducible refine gate_callee (f := 21) rfl ?_); (refine goesL_ (some 17) rfl rfl Try.func21 (by kernel_rfl) rfl #[.slice Ai (ri).length ci, .int .i64 x1_1] rfl (by (try simp only [List.map_toArray, List.map_cons, List.map_nil]); rfl) ?_; refine (laws_markIntS.calls k1 oki _ (ri) x1_1 m1 m2 w0 _ HB.out HR.out HM.out).mono ?_; rintro e w9 ⟨rfl, hy0, hb, hkp⟩; refine ⟨_, rfl, ?_⟩; have HO9 := As.mk (Kd.H_back (okp := oki) (x' := m2) (Kd.H_kept HH.out hkp (fun _ _ hn => hn)) ⟨_, rfl, Kd.R_reok rfl hy0 (fun k_ e_ => HR.out.1 k_ e_)⟩ (fun _ hk => hk)); have HB9 := As.mk hb; have HK9 := As.mk (Kept.then_ HK.out hkp (fun k_ hk => .inl (HOK.out k_ hk).1)); clear hy0 hb hkp HO_0 HB HK HR HH)))
          go_roundg k1
          case measure => have := HK1.out; omega
          case rel => exact ⟨x0_1.set x5_1.toNat m2, m1, wrap64 (x5_1 + 1), rfl, rfl, H', ⟨by have := HK1.out; omega⟩, HO9, HK9, HB9⟩
        · rw [if_neg c4] at H
          cases H
      · rw [if_neg c3] at H
        have c3b0 : decide (x5_1 < (x0_1.length : Int)) = false := decide_eq_false c3
        clear c3
        simp only [Option.some.injEq, Prod.mk.injEq] at H
        obtain ⟨rfl, rfl⟩ := H
        obtain ⟨Ao9, co9, eo9⟩ := Kd.S_slice HO_0.out
        subst eo9
        go_wp2
        go_ret
        exact ⟨rfl, ⟨_, HO_0.out⟩, HB.out, HK.out⟩
end Go.Proofs.Ytclpjlaielphfaa.PF
end
