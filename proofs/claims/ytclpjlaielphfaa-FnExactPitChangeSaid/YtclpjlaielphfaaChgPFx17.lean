/- Used by the claim's last text. -/
import Derived.Test.YtclpjlaielphfaaChgPFx0
import Derived.Test.YtclpjlaielphfaaChgPFx4
import Derived.Test.YtclpjlaielphfaaChgPFx6
import Derived.Test.YtclpjlaielphfaaChgPFx10
import Derived.Test.YtclpjlaielphfaaChgPFx11
import Derived.Test.YtclpjlaielphfaaChgPit
section
namespace Go.Proofs.Ytclpjlaielphfaa.PF
open Go.RowKit Go.Proofs.YtclpjlaielphfaaW.PrintWords Go.Proofs.YtclpjlaielphfaaW.PrintLast Go.Proofs.YtclpjlaielphfaaW.PrintMore
attribute [local go_sem] max2_int min2_int max_two min_two max_three min_three max_four min_four
set_option linter.unusedVariables false
set_option linter.unusedSimpArgs false
def spec_phLess.l0 : Nat → List Int → List Int → List Int → Int → Int → Option (List Int)
 | 0, _, _, _, _, _ => none
 | k + 1, x1, x5, x8, x9, x10 => if x10 < x9 then (if 0 ≤ x10 then (if x10 < (x8.length : Int) then ((spec_l1Has.f k x1 (rd x8 x10)).bind fun t527 => (if t527 = true then (spec_phLess.l0 k x1 x5 x8 x9 (wrap64 (x10 + 1))) else (if x5.length < 17592186044416 then (spec_phLess.l0 k x1 (x5 ++ [rd x8 x10]) x8 x9 (wrap64 (x10 + 1))) else (none)))) else (none)) else (none)) else (some x5)
def spec_phLess.f (k : Nat) (l0 : List Int) (l1 : List Int) : Option (List Int) := spec_phLess.l0 k l1 ([] : List Int) l0 (l0.length : Int) 0
theorem spec_phLess.mono_l : ∀ k, (∀ y0 y1 y2 y3 y4, LeO (spec_phLess.l0 k y0 y1 y2 y3 y4) (spec_phLess.l0 (k + 1) y0 y1 y2 y3 y4))
 | 0 => fun _ _ _ _ _ r h => by simp [spec_phLess.l0] at h
 | k + 1 => by
  have ih0 := spec_phLess.mono_l k
  ·intro y0 y1 y2 y3 y4
   unfold spec_phLess.l0
   repeat' first
   | (with_reducible exact ih0 _ _ _ _ _)
   | (with_reducible exact spec_l1Has.mono _ _ _)
   | (with_reducible exact LeO.refl _)
   | (with_reducible exact LeO.none _)
   | (with_reducible refine LeO.ite ?_ ?_)
   | (with_reducible refine LeO.bind ?_ (fun _ => ?_))
   | exact ih0 _ _ _ _ _
   | exact spec_l1Has.mono _ _ _
   | exact LeO.none _
   | refine LeO.ite ?_ ?_
   | refine LeO.bind ?_ (fun _ => ?_)
theorem spec_phLess.mono : ∀ a0 a1 k, LeO (spec_phLess.f k a0 a1) (spec_phLess.f (k + 1) a0 a1) := by
 intro a0 a1 k
 have ih0 := spec_phLess.mono_l k
 unfold spec_phLess.f
 repeat' first
   | (with_reducible exact ih0 _ _ _ _ _)
   | (with_reducible exact spec_l1Has.mono _ _ _)
   | (with_reducible exact LeO.refl _)
   | (with_reducible exact LeO.none _)
   | (with_reducible refine LeO.ite ?_ ?_)
   | (with_reducible refine LeO.bind ?_ (fun _ => ?_))
   | exact ih0 _ _ _ _ _
   | exact spec_l1Has.mono _ _ _
   | exact LeO.none _
   | refine LeO.ite ?_ ?_
   | refine LeO.bind ?_ (fun _ => ?_)
set_option maxHeartbeats 8000000 in
set_option maxRecDepth 100000 in
theorem spec_phLess.calls (k : Nat) (A0 : Option Addr) (c0 : Nat) (l0 : List Int) (A1 : Option Addr) (c1 : Nat) (l1 : List Int) (r : List Int) (w : World) (hr0 : Kd.C (Kd.int .i64) w A0 l0.length l0) (hc0 : l0.length ≤ c0) (hr1 : Kd.C (Kd.int .i64) w A1 l1.length l1) (hc1 : l1.length ≤ c1) (h : spec_phLess.f k l0 l1 = some r) :
  Calls Try.prog 116 #[.slice A0 l0.length c0, .slice A1 l1.length c1] w fun e w' => ∃ v0_ : Value, e = .returned (v0_) ∧ Kd.R (Kd.int .i64) 3 w' w.heap.size (fun _ => True) v0_ r ∧ Below w.heap.size w w' := by
 have HR0 := As.mk hr0
 have HC0 := As.mk hc0
 clear hr0 hc0
 have HR1 := As.mk hr1
 have HC1 := As.mk hc1
 clear hr1 hc1
 have HB := As.mk (Below.refl w.heap.size w)
 have H : (spec_phLess.l0 k l1 ([] : List Int) l0 (l0.length : Int) 0) = some r := h
 clear h
 have H' := As.mk H
 clear H
 go_enter Try.func116, Try.ntmps116
 go_wp2
 go_loopg [5, 10] k (fun kq v5 v10 w' => ∃ (x5_1 : List Int) (x10_1 : Int), v10 = .int .i64 x10_1 ∧ As (spec_phLess.l0 kq l1 x5_1 l0 (l0.length : Int) x10_1 = some r) ∧ As (kq ≤ k) ∧ As (Kd.R (Kd.int .i64) 3 w' w.heap.size (fun _ => True) v5 x5_1) ∧ As (Below w.heap.size w w'))
 case atStart => exact ⟨(([] : List Int)), (0), (by first | rfl | (simp; done) | (simp [*]; done)), H', ⟨Nat.le_refl _⟩, ⟨by first | exact Kd.R_nil _ _ _ _ _ | exact Kd.N_nil _ _ _ _ _ | exact Kd.V_nil _ _ _ _ _ | exact Kd.Q_nil _ _ _ _ _ | exact Kd.S_nil _ _ _ _ _⟩, ⟨by repeat (first | (with_reducible first | exact HB.out | apply bal | apply bdN | apply bd1) | exact HB.out)⟩⟩
 case round =>
  clear H'
  try clear c1
  try clear p2
  obtain ⟨x5_1, x10_1, rfl, HA, HK1, HO_5, HB⟩ := hrel
  cases gk with
  | zero => exact absurd HA.out (by simp [spec_phLess.l0])
  | succ k1 =>
   have H := HA.out
   clear HA
   simp only [spec_phLess.l0] at H
   by_cases c3 : x10_1 < (l0.length : Int)
   ·rw [if_pos c3] at H
    have c3b0 : decide (x10_1 < (l0.length : Int)) = true := decide_eq_true c3
    clear c3
    by_cases c4 : 0 ≤ x10_1
    ·rw [if_pos c4] at H
     have c4b0 : decide (0 ≤ x10_1) = true := decide_eq_true c4
     clear c4
     by_cases c5 : x10_1 < (l0.length : Int)
     ·rw [if_pos c5] at H
      have c5b0 : decide (x10_1 < (l0.length : Int)) = true := decide_eq_true c5
      clear c5
      replace H := Option.bind_eq_some_iff.mp H
      obtain ⟨t527, A60, H⟩ := H
      try dsimp only at H
      have A6 := As.mk A60
      clear A60
      by_cases c7 : t527 = true
      ·subst c7
       have H1 : (spec_phLess.l0 k1 l1 x5_1 l0 (l0.length : Int) (wrap64 (x10_1 + 1))) = some r := by rw [if_pos rfl] at H; exact H
       clear H
       have H := H1
       clear H1
       have H' := As.mk H
       clear H
       have p526 : 0 ≤ (x10_1 : Int) := of_decide_eq_true (by first | (with_reducible assumption) | assumption)
       have q526 : x10_1 < (l0.length : Int) := of_decide_eq_true (by first | (with_reducible assumption) | assumption)
       obtain ⟨ad526, e526, hx526_0⟩ := Kd.at_int HR0.out x10_1 p526 q526
       cases e526
       replace hx526_0 := (HB.out.cell (World.block_lt_of_cell? w _ hx526_0)).trans hx526_0
       replace p526 := eq_true p526
       replace q526 := eq_true q526
       go_wp2_with (first | ((with_reducible refine gate_callee (f := 147) rfl ?_); refine goesL_ (some 16) rfl rfl Try.func147 (by kernel_rfl) rfl #[.slice A1 l1.length c1, .int .i64 (rd l0 x10_1)] rfl (by (try simp only [List.map_toArray, List.map_cons, List.map_nil]); first | done | rfl | (simp only [List.length_drop, List.length_take]; rfl)) ?_; (with_reducible refine (spec_l1Has.calls k1 _ _ l1 (rd l0 x10_1) true _ ?side1 ?side2 A6.out).mono ?_); (case side1 => repeat (first | exact (Kd.C_below HR1.out HB.out) | (with_reducible refine Kd.Cal ?_ _) | (with_reducible refine Kd.CdN ?_ _) | (with_reducible refine Kd.Cdr ?_))); (case side2 => exact HC1.out); rintro e w' ⟨rfl, ⟨nd, rfl⟩⟩; refine ⟨_, rfl, ?_⟩))
       go_roundg k1
       case measure => have := HK1.out; omega
       case rel => exact ⟨(x5_1), (wrap64 (x10_1 + 1)), (by first | rfl | (simp; done) | (simp [*]; done)), H', ⟨by have := HK1.out; omega⟩, ⟨by (with_reducible repeat (first | apply Kd.Ral | apply Kd.RdN | apply Kd.Rdr)); exact HO_5.out⟩, ⟨by repeat (first | (with_reducible first | exact HB.out | apply bal | apply bdN | apply bd1) | exact HB.out)⟩⟩
      ·replace c7 := Bool.eq_false_iff.mpr c7
       subst c7
       have H1 : (if x5_1.length < 17592186044416 then (spec_phLess.l0 k1 l1 (x5_1 ++ [rd l0 x10_1]) l0 (l0.length : Int) (wrap64 (x10_1 + 1))) else (none)) = some r := by rw [if_neg (show ¬ (false = true) by decide)] at H; exact H
       clear H
       have H := H1
       clear H1
       by_cases c8 : x5_1.length < 17592186044416
       ·rw [if_pos c8] at H
        have LMc8 := As.mk c8
        clear c8
        obtain ⟨y528, hy528⟩ : ∃ y_ : List Int, y_ = (x5_1 ++ [rd l0 x10_1]) := ⟨_, rfl⟩
        replace H : (spec_phLess.l0 k1 l1 y528 l0 (l0.length : Int) (wrap64 (x10_1 + 1))) = some r := by first | (rw [hy528]; with_reducible exact H) | (have H2_ := (Option.bind_some _ _).symm.trans H; rw [hy528]; with_reducible exact H2_) | (have H2_ := (Option.bind_some _ _).symm.trans H; with_reducible exact H2_) | with_reducible exact H | (rw [hy528]; exact H) | exact H
        have Ny528 := As.mk hy528
        clear hy528
        have H' := As.mk H
        clear H
        have p526 : 0 ≤ (x10_1 : Int) := of_decide_eq_true (by first | (with_reducible assumption) | assumption)
        have q526 : x10_1 < (l0.length : Int) := of_decide_eq_true (by first | (with_reducible assumption) | assumption)
        obtain ⟨ad526, e526, hx526_0⟩ := Kd.at_int HR0.out x10_1 p526 q526
        cases e526
        replace hx526_0 := (HB.out.cell (World.block_lt_of_cell? w _ hx526_0)).trans hx526_0
        replace p526 := eq_true p526
        replace q526 := eq_true q526
        go_wp2_with (first | ((with_reducible refine gate_callee (f := 147) rfl ?_); refine goesL_ (some 16) rfl rfl Try.func147 (by kernel_rfl) rfl #[.slice A1 l1.length c1, .int .i64 (rd l0 x10_1)] rfl (by (try simp only [List.map_toArray, List.map_cons, List.map_nil]); first | done | rfl | (simp only [List.length_drop, List.length_take]; rfl)) ?_; (with_reducible refine (spec_l1Has.calls k1 _ _ l1 (rd l0 x10_1) false _ ?side1 ?side2 A6.out).mono ?_); (case side1 => repeat (first | exact (Kd.C_below HR1.out HB.out) | (with_reducible refine Kd.Cal ?_ _) | (with_reducible refine Kd.CdN ?_ _) | (with_reducible refine Kd.Cdr ?_))); (case side2 => exact HC1.out); rintro e w' ⟨rfl, ⟨nd, rfl⟩⟩; refine ⟨_, rfl, ?_⟩) | ((with_reducible refine gate_builtin (b := .append) (xs := #[.tmp 18, .tmp 20]) rfl ?_); at_builtin; refine Kd.R_append (Kd.int .i64) (w0 := w) w.heap.size rfl (.tmp 18) (.tmp 20) 23 3 (.int .i64 0) 8 rfl Try.underlying23 info3 rfl (by decide) (by omega) u5 x5_1 (rd l0 x10_1) [.int .i64 (rd l0 x10_1)] (fun _ => True) (fun _ => False) rfl rfl ?aP (fun _ hk => hk.elim) ?aF ?aO ?aB ?aS ?aL ?_; (case aP => exact rfl); (case aB => exact (by repeat (first | (with_reducible first | exact HB.out | apply bal | apply bdN | apply bd1) | exact HB.out))); (case aF => exact (fun _ _ => trivial)); (case aO => exact (by (with_reducible repeat (first | apply Kd.Ral | apply Kd.RdN | apply Kd.Rdr)); exact HO_5.out)); (case aS => exact (below_size (by repeat (first | (with_reducible first | exact HB.out | apply bal | apply bdN | apply bd1) | exact HB.out)))); (case aL => have := LMc8.out; omega); intro v529 w9 ho hb hg hat; rw [← Ny528.out] at ho; have n0_ := As.mk (hb); have n1_ := As.mk (ho); clear HB; clear HO_5; have HB := n0_; have HO530 := n1_; clear n0_ n1_; clear ho hb hg hat))
        go_roundg k1
        case measure => have := HK1.out; omega
        case rel => exact ⟨(y528), (wrap64 (x10_1 + 1)), (by first | rfl | (simp; done) | (simp [*]; done)), H', ⟨by have := HK1.out; omega⟩, ⟨by (with_reducible repeat (first | apply Kd.Ral | apply Kd.RdN | apply Kd.Rdr)); exact HO530.out⟩, ⟨by repeat (first | (with_reducible first | exact HB.out | apply bal | apply bdN | apply bd1) | exact HB.out)⟩⟩
       ·rw [if_neg c8] at H
        exact absurd H (by simp)
     ·rw [if_neg c5] at H
      exact absurd H (by simp)
    ·rw [if_neg c4] at H
     exact absurd H (by simp)
   ·rw [if_neg c3] at H
    have c3b0 : decide (x10_1 < (l0.length : Int)) = false := decide_eq_false c3
    clear c3
    obtain rfl := Option.some.inj H
    go_wp2
    go_ret
    exact ⟨_, by first | rfl | (simp [errW_none, errW_some] <;> rfl) | (simp [*, errW_none, errW_some] <;> rfl), by (with_reducible repeat (first | apply Kd.Ral | apply Kd.RdN | apply Kd.Rdr)); exact HO_5.out, by repeat (first | (with_reducible first | exact HB.out | apply bal | apply bdN | apply bd1) | exact HB.out)⟩
def spec_PitChange.f (k : Nat) (l0 : List (List Int)) (l1 : List Int) (l2 : List (S130)) : Option (List Int × List Int × Bool) := (spec_edAsked.f k l0 l1 l2).bind fun t531 => (if t531 = true then ((spec_paFind.f k l0 l1).bind fun t532 => ((spec_edAfter.f k l1 l2).bind fun t535 => ((spec_paFind.f k l0 t535).bind fun t538 => ((spec_phLess.f k t538 t532).bind fun t541 => ((spec_phLess.f k t532 t538).bind fun t544 => (some (t541, t544, true))))))) else (some (([] : List Int), ([] : List Int), false)))
theorem spec_PitChange.mono : ∀ a0 a1 a2 k, LeO (spec_PitChange.f k a0 a1 a2) (spec_PitChange.f (k + 1) a0 a1 a2) := by
 intro a0 a1 a2 k
 unfold spec_PitChange.f
 repeat' first
   | (with_reducible exact spec_edAfter.mono _ _ _)
   | (with_reducible exact spec_edAsked.mono _ _ _ _)
   | (with_reducible exact spec_paFind.mono _ _ _)
   | (with_reducible exact spec_phLess.mono _ _ _)
   | (with_reducible exact LeO.refl _)
   | (with_reducible exact LeO.none _)
   | (with_reducible refine LeO.ite ?_ ?_)
   | (with_reducible refine LeO.bind ?_ (fun _ => ?_))
   | exact spec_edAfter.mono _ _ _
   | exact spec_edAsked.mono _ _ _ _
   | exact spec_paFind.mono _ _ _
   | exact spec_phLess.mono _ _ _
   | exact LeO.none _
   | refine LeO.ite ?_ ?_
   | refine LeO.bind ?_ (fun _ => ?_)
set_option maxHeartbeats 8000000 in
set_option maxRecDepth 100000 in
theorem spec_PitChange.calls (k : Nat) (A0 : Option Addr) (c0 : Nat) (l0 : List (List Int)) (A1 : Option Addr) (c1 : Nat) (l1 : List Int) (A2 : Option Addr) (c2 : Nat) (l2 : List (S130)) (r1 : List Int) (r2 : List Int) (r3 : Bool) (w : World) (hr0 : Kd.C (Kd.slice 3 (Kd.int .i64)) w A0 l0.length l0) (hc0 : l0.length ≤ c0) (hr1 : Kd.C (Kd.int .i64) w A1 l1.length l1) (hc1 : l1.length ≤ c1) (hr2 : Kd.C k130 w A2 l2.length l2) (hc2 : l2.length ≤ c2) (h : spec_PitChange.f k l0 l1 l2 = some (r1, r2, r3)) :
  Calls Try.prog 64 #[.slice A0 l0.length c0, .slice A1 l1.length c1, .slice A2 l2.length c2] w fun e w' => ∃ v0_ v1_ : Value, e = .returned (.tuple #[v0_, v1_, .bool r3]) ∧ Kd.R (Kd.int .i64) 3 w' w.heap.size (fun k_ => some k_ ≠ (v1_ : Value).ownBlock) v0_ r1 ∧ Kd.R (Kd.int .i64) 3 w' w.heap.size (fun k_ => some k_ ≠ (v0_ : Value).ownBlock) v1_ r2 ∧ Below w.heap.size w w' := by
 have HR0 := As.mk hr0
 have HC0 := As.mk hc0
 clear hr0 hc0
 have HR1 := As.mk hr1
 have HC1 := As.mk hc1
 clear hr1 hc1
 have HR2 := As.mk hr2
 have HC2 := As.mk hc2
 clear hr2 hc2
 have HB := As.mk (Below.refl w.heap.size w)
 have H : ((spec_edAsked.f k l0 l1 l2).bind fun t531 => (if t531 = true then ((spec_paFind.f k l0 l1).bind fun t532 => ((spec_edAfter.f k l1 l2).bind fun t535 => ((spec_paFind.f k l0 t535).bind fun t538 => ((spec_phLess.f k t538 t532).bind fun t541 => ((spec_phLess.f k t532 t538).bind fun t544 => (some (t541, t544, true))))))) else (some (([] : List Int), ([] : List Int), false)))) = some (r1, r2, r3) := h
 clear h
 replace H := Option.bind_eq_some_iff.mp H
 obtain ⟨t531, A40, H⟩ := H
 try dsimp only at H
 have A4 := As.mk A40
 clear A40
 by_cases c5 : t531 = true
 ·subst c5
  have H1 : ((spec_paFind.f k l0 l1).bind fun t532 => ((spec_edAfter.f k l1 l2).bind fun t535 => ((spec_paFind.f k l0 t535).bind fun t538 => ((spec_phLess.f k t538 t532).bind fun t541 => ((spec_phLess.f k t532 t538).bind fun t544 => (some (t541, t544, true))))))) = some (r1, r2, r3) := by rw [if_pos rfl] at H; exact H
  clear H
  have H := H1
  clear H1
  replace H := Option.bind_eq_some_iff.mp H
  obtain ⟨t532, A60, H⟩ := H
  try dsimp only at H
  have A6 := As.mk A60
  clear A60
  replace H := Option.bind_eq_some_iff.mp H
  obtain ⟨t535, A70, H⟩ := H
  try dsimp only at H
  have A7 := As.mk A70
  clear A70
  replace H := Option.bind_eq_some_iff.mp H
  obtain ⟨t538, A80, H⟩ := H
  try dsimp only at H
  have A8 := As.mk A80
  clear A80
  replace H := Option.bind_eq_some_iff.mp H
  obtain ⟨t541, A90, H⟩ := H
  try dsimp only at H
  have A9 := As.mk A90
  clear A90
  replace H := Option.bind_eq_some_iff.mp H
  obtain ⟨t544, A100, H⟩ := H
  try dsimp only at H
  have A10 := As.mk A100
  clear A100
  simp only [Option.some.injEq, Prod.mk.injEq] at H
  obtain ⟨rfl, rfl, rfl⟩ := H
  go_enter Try.func64, Try.ntmps64
  go_wp2_with (first | ((with_reducible refine gate_callee (f := 105) rfl ?_); refine goesL_ (some 14) rfl rfl Try.func105 (by kernel_rfl) rfl #[.slice A0 l0.length c0, .slice A1 l1.length c1, .slice A2 l2.length c2] rfl (by (try simp only [List.map_toArray, List.map_cons, List.map_nil]); first | done | rfl | (simp only [List.length_drop, List.length_take]; rfl)) ?_; (with_reducible refine (spec_edAsked.calls k _ _ l0 _ _ l1 _ _ l2 true _ ?side1 ?side2 ?side3 ?side4 ?side5 ?side6 A4.out).mono ?_); (case side1 => repeat (first | exact HR0.out | (with_reducible refine Kd.Cal ?_ _) | (with_reducible refine Kd.CdN ?_ _) | (with_reducible refine Kd.Cdr ?_))); (case side2 => exact HC0.out); (case side3 => repeat (first | exact HR1.out | (with_reducible refine Kd.Cal ?_ _) | (with_reducible refine Kd.CdN ?_ _) | (with_reducible refine Kd.Cdr ?_))); (case side4 => exact HC1.out); (case side5 => repeat (first | exact HR2.out | (with_reducible refine Kd.Cal ?_ _) | (with_reducible refine Kd.CdN ?_ _) | (with_reducible refine Kd.Cdr ?_))); (case side6 => exact HC2.out); rintro e w11 ⟨rfl, hb⟩; refine ⟨_, rfl, ?_⟩; have n0_ := As.mk (below_step (by repeat (first | (with_reducible first | exact HB.out | apply bal | apply bdN | apply bd1) | exact HB.out)) hb); clear HB; have HB := n0_; clear n0_; (try clear hb); (try clear hb2); (try clear hk); (try clear hi)) | ((with_reducible refine gate_callee (f := 113) rfl ?_); refine goesL_ (some 18) rfl rfl Try.func113 (by kernel_rfl) rfl #[.slice A0 l0.length c0, .slice A1 l1.length c1] rfl (by (try simp only [List.map_toArray, List.map_cons, List.map_nil]); first | done | rfl | (simp only [List.length_drop, List.length_take]; rfl)) ?_; (with_reducible refine (spec_paFind.calls k _ _ l0 _ _ l1 t532 _ ?side1 ?side2 ?side3 ?side4 A6.out).mono ?_); (case side1 => repeat (first | exact (Kd.C_below HR0.out HB.out) | (with_reducible refine Kd.Cal ?_ _) | (with_reducible refine Kd.CdN ?_ _) | (with_reducible refine Kd.Cdr ?_))); (case side2 => exact HC0.out); (case side3 => repeat (first | exact (Kd.C_below HR1.out HB.out) | (with_reducible refine Kd.Cal ?_ _) | (with_reducible refine Kd.CdN ?_ _) | (with_reducible refine Kd.Cdr ?_))); (case side4 => exact HC1.out); rintro e w12 ⟨v533, rfl, ho0, hb⟩; refine ⟨_, rfl, ?_⟩; have n0_ := As.mk (Kd.R_lower ho0 (below_size (by repeat (first | (with_reducible first | exact HB.out | apply bal | apply bdN | apply bd1) | exact HB.out)))); have n1_ := As.mk (below_step (by repeat (first | (with_reducible first | exact HB.out | apply bal | apply bdN | apply bd1) | exact HB.out)) hb); clear HB; have HO534 := n0_; have HB := n1_; clear n0_ n1_; (try clear hb); (try clear hb2); (try clear hk); (try clear hi); (try clear ho0)) | ((with_reducible refine gate_callee (f := 107) rfl ?_); refine goesL_ (some 22) rfl rfl Try.func107 (by kernel_rfl) rfl #[.slice A1 l1.length c1, .slice A2 l2.length c2] rfl (by (try simp only [List.map_toArray, List.map_cons, List.map_nil]); first | done | rfl | (simp only [List.length_drop, List.length_take]; rfl)) ?_; (with_reducible refine (spec_edAfter.calls k _ _ l1 _ _ l2 t535 _ ?side1 ?side2 ?side3 ?side4 A7.out).mono ?_); (case side1 => repeat (first | exact (Kd.C_below HR1.out HB.out) | (with_reducible refine Kd.Cal ?_ _) | (with_reducible refine Kd.CdN ?_ _) | (with_reducible refine Kd.Cdr ?_))); (case side2 => exact HC1.out); (case side3 => repeat (first | exact (Kd.C_below HR2.out HB.out) | (with_reducible refine Kd.Cal ?_ _) | (with_reducible refine Kd.CdN ?_ _) | (with_reducible refine Kd.Cdr ?_))); (case side4 => exact HC2.out); rintro e w13 ⟨v536, rfl, ho0, hb⟩; refine ⟨_, rfl, ?_⟩; have n0_ := As.mk (Kd.R_elder' (by (with_reducible repeat (first | apply Kd.Ral | apply Kd.RdN | apply Kd.Rdr)); exact HO534.out) (Kd.R_base ho0) hb); have n1_ := As.mk (Kd.R_lower (Kd.R_new' ho0 (Kd.R_lt (by (with_reducible repeat (first | apply Kd.Ral | apply Kd.RdN | apply Kd.Rdr)); exact HO534.out))) (below_size (by repeat (first | (with_reducible first | exact HB.out | apply bal | apply bdN | apply bd1) | exact HB.out)))); have n2_ := As.mk (below_step (by repeat (first | (with_reducible first | exact HB.out | apply bal | apply bdN | apply bd1) | exact HB.out)) hb); clear HO534; clear HB; have HO534 := n0_; have HO537 := n1_; have HB := n2_; clear n0_ n1_ n2_; (try clear hb); (try clear hb2); (try clear hk); (try clear hi); (try clear ho0); obtain ⟨Ao14, co14, eo14⟩ := Kd.R_slice HO537.out; subst eo14) | ((with_reducible refine gate_callee (f := 113) rfl ?_); refine goesL_ (some 23) rfl rfl Try.func113 (by kernel_rfl) rfl #[.slice A0 l0.length c0, .slice Ao14 t535.length co14] rfl (by (try simp only [List.map_toArray, List.map_cons, List.map_nil]); first | done | rfl | (simp only [List.length_drop, List.length_take]; rfl)) ?_; (with_reducible refine (spec_paFind.calls k _ _ l0 _ _ t535 t538 _ ?side1 ?side2 ?side3 ?side4 A8.out).mono ?_); (case side1 => repeat (first | exact (Kd.C_below HR0.out HB.out) | (with_reducible refine Kd.Cal ?_ _) | (with_reducible refine Kd.CdN ?_ _) | (with_reducible refine Kd.Cdr ?_))); (case side2 => exact HC0.out); (case side3 => repeat (first | exact (Kd.R_reads' HO537.out).2.2 | (with_reducible refine Kd.Cal ?_ _) | (with_reducible refine Kd.CdN ?_ _) | (with_reducible refine Kd.Cdr ?_))); (case side4 => exact (Kd.R_reads' HO537.out).2.1); rintro e w15 ⟨v539, rfl, ho0, hb⟩; refine ⟨_, rfl, ?_⟩; have n0_ := As.mk (Kd.R_elder' (by (with_reducible repeat (first | apply Kd.Ral | apply Kd.RdN | apply Kd.Rdr)); exact HO534.out) (Kd.R_base ho0) hb); have n1_ := As.mk (Kd.R_elder' (by (with_reducible repeat (first | apply Kd.Ral | apply Kd.RdN | apply Kd.Rdr)); exact HO537.out) (Kd.R_base ho0) hb); have n2_ := As.mk (Kd.R_lower (Kd.R_new' (Kd.R_new' ho0 (Kd.R_lt (by (with_reducible repeat (first | apply Kd.Ral | apply Kd.RdN | apply Kd.Rdr)); exact HO534.out))) (Kd.R_lt (by (with_reducible repeat (first | apply Kd.Ral | apply Kd.RdN | apply Kd.Rdr)); exact HO537.out))) (below_size (by repeat (first | (with_reducible first | exact HB.out | apply bal | apply bdN | apply bd1) | exact HB.out)))); have n3_ := As.mk (below_step (by repeat (first | (with_reducible first | exact HB.out | apply bal | apply bdN | apply bd1) | exact HB.out)) hb); clear HO534; clear HO537; clear HB; have HO534 := n0_; have HO537 := n1_; have HO540 := n2_; have HB := n3_; clear n0_ n1_ n2_ n3_; (try clear hb); (try clear hb2); (try clear hk); (try clear hi); (try clear ho0); obtain ⟨Ao16, co16, eo16⟩ := Kd.R_slice HO540.out; subst eo16; obtain ⟨Ao17, co17, eo17⟩ := Kd.R_slice HO534.out; subst eo17) | ((with_reducible refine gate_callee (f := 116) rfl ?_); refine goesL_ (some 26) rfl rfl Try.func116 (by kernel_rfl) rfl #[.slice Ao16 t538.length co16, .slice Ao17 t532.length co17] rfl (by (try simp only [List.map_toArray, List.map_cons, List.map_nil]); first | done | rfl | (simp only [List.length_drop, List.length_take]; rfl)) ?_; (with_reducible refine (spec_phLess.calls k _ _ t538 _ _ t532 t541 _ ?side1 ?side2 ?side3 ?side4 A9.out).mono ?_); (case side1 => repeat (first | exact (Kd.R_reads' HO540.out).2.2 | (with_reducible refine Kd.Cal ?_ _) | (with_reducible refine Kd.CdN ?_ _) | (with_reducible refine Kd.Cdr ?_))); (case side2 => exact (Kd.R_reads' HO540.out).2.1); (case side3 => repeat (first | exact (Kd.R_reads' HO534.out).2.2 | (with_reducible refine Kd.Cal ?_ _) | (with_reducible refine Kd.CdN ?_ _) | (with_reducible refine Kd.Cdr ?_))); (case side4 => exact (Kd.R_reads' HO534.out).2.1); rintro e w18 ⟨v542, rfl, ho0, hb⟩; refine ⟨_, rfl, ?_⟩; have n0_ := As.mk (Kd.R_elder' (by (with_reducible repeat (first | apply Kd.Ral | apply Kd.RdN | apply Kd.Rdr)); exact HO534.out) (Kd.R_base ho0) hb); have n1_ := As.mk (Kd.R_elder' (by (with_reducible repeat (first | apply Kd.Ral | apply Kd.RdN | apply Kd.Rdr)); exact HO537.out) (Kd.R_base ho0) hb); have n2_ := As.mk (Kd.R_elder' (by (with_reducible repeat (first | apply Kd.Ral | apply Kd.RdN | apply Kd.Rdr)); exact HO540.out) (Kd.R_base ho0) hb); have n3_ := As.mk (Kd.R_lower (Kd.R_new' (Kd.R_new' (Kd.R_new' ho0 (Kd.R_lt (by (with_reducible repeat (first | apply Kd.Ral | apply Kd.RdN | apply Kd.Rdr)); exact HO534.out))) (Kd.R_lt (by (with_reducible repeat (first | apply Kd.Ral | apply Kd.RdN | apply Kd.Rdr)); exact HO537.out))) (Kd.R_lt (by (with_reducible repeat (first | apply Kd.Ral | apply Kd.RdN | apply Kd.Rdr)); exact HO540.out))) (below_size (by repeat (first | (with_reducible first | exact HB.out | apply bal | apply bdN | apply bd1) | exact HB.out)))); have n4_ := As.mk (below_step (by repeat (first | (with_reducible first | exact HB.out | apply bal | apply bdN | apply bd1) | exact HB.out)) hb); clear HO534; clear HO537; clear HO540; clear HB; have HO534 := n0_; have HO537 := n1_; have HO540 := n2_; have HO543 := n3_; have HB := n4_; clear n0_ n1_ n2_ n3_ n4_; (try clear hb); (try clear hb2); (try clear hk); (try clear hi); (try clear ho0)) | ((with_reducible refine gate_callee (f := 116) rfl ?_); refine goesL_ (some 29) rfl rfl Try.func116 (by kernel_rfl) rfl #[.slice Ao17 t532.length co17, .slice Ao16 t538.length co16] rfl (by (try simp only [List.map_toArray, List.map_cons, List.map_nil]); first | done | rfl | (simp only [List.length_drop, List.length_take]; rfl)) ?_; (with_reducible refine (spec_phLess.calls k _ _ t532 _ _ t538 t544 _ ?side1 ?side2 ?side3 ?side4 A10.out).mono ?_); (case side1 => repeat (first | exact (Kd.R_reads' HO534.out).2.2 | (with_reducible refine Kd.Cal ?_ _) | (with_reducible refine Kd.CdN ?_ _) | (with_reducible refine Kd.Cdr ?_))); (case side2 => exact (Kd.R_reads' HO534.out).2.1); (case side3 => repeat (first | exact (Kd.R_reads' HO540.out).2.2 | (with_reducible refine Kd.Cal ?_ _) | (with_reducible refine Kd.CdN ?_ _) | (with_reducible refine Kd.Cdr ?_))); (case side4 => exact (Kd.R_reads' HO540.out).2.1); rintro e w19 ⟨v545, rfl, ho0, hb⟩; refine ⟨_, rfl, ?_⟩; have n0_ := As.mk (Kd.R_elder' (by (with_reducible repeat (first | apply Kd.Ral | apply Kd.RdN | apply Kd.Rdr)); exact HO534.out) (Kd.R_base ho0) hb); have n1_ := As.mk (Kd.R_elder' (by (with_reducible repeat (first | apply Kd.Ral | apply Kd.RdN | apply Kd.Rdr)); exact HO537.out) (Kd.R_base ho0) hb); have n2_ := As.mk (Kd.R_elder' (by (with_reducible repeat (first | apply Kd.Ral | apply Kd.RdN | apply Kd.Rdr)); exact HO540.out) (Kd.R_base ho0) hb); have n3_ := As.mk (Kd.R_elder' (by (with_reducible repeat (first | apply Kd.Ral | apply Kd.RdN | apply Kd.Rdr)); exact HO543.out) (Kd.R_base ho0) hb); have n4_ := As.mk (Kd.R_lower (Kd.R_new' (Kd.R_new' (Kd.R_new' (Kd.R_new' ho0 (Kd.R_lt (by (with_reducible repeat (first | apply Kd.Ral | apply Kd.RdN | apply Kd.Rdr)); exact HO534.out))) (Kd.R_lt (by (with_reducible repeat (first | apply Kd.Ral | apply Kd.RdN | apply Kd.Rdr)); exact HO537.out))) (Kd.R_lt (by (with_reducible repeat (first | apply Kd.Ral | apply Kd.RdN | apply Kd.Rdr)); exact HO540.out))) (Kd.R_lt (by (with_reducible repeat (first | apply Kd.Ral | apply Kd.RdN | apply Kd.Rdr)); exact HO543.out))) (below_size (by repeat (first | (with_reducible first | exact HB.out | apply bal | apply bdN | apply bd1) | exact HB.out)))); have n5_ := As.mk (below_step (by repeat (first | (with_reducible first | exact HB.out | apply bal | apply bdN | apply bd1) | exact HB.out)) hb); clear HO534; clear HO537; clear HO540; clear HO543; clear HB; have HO534 := n0_; have HO537 := n1_; have HO540 := n2_; have HO543 := n3_; have HO546 := n4_; have HB := n5_; clear n0_ n1_ n2_ n3_ n4_ n5_; (try clear hb); (try clear hb2); (try clear hk); (try clear hi); (try clear ho0)))
  go_ret3
  exact ⟨_, _, by first | rfl | (simp [errW_none, errW_some] <;> rfl) | (simp [*, errW_none, errW_some] <;> rfl), by (with_reducible repeat (first | apply Kd.Ral | apply Kd.RdN | apply Kd.Rdr)); exact Kd.R_mono HO543.out (fun _ hk => hk.2), by (with_reducible repeat (first | apply Kd.Ral | apply Kd.RdN | apply Kd.Rdr)); exact Kd.R_mono HO546.out (fun _ hk => hk.2), by repeat (first | (with_reducible first | exact HB.out | apply bal | apply bdN | apply bd1) | exact HB.out)⟩
 ·replace c5 := Bool.eq_false_iff.mpr c5
  subst c5
  have H1 : (some (([] : List Int), ([] : List Int), false)) = some (r1, r2, r3) := by rw [if_neg (show ¬ (false = true) by decide)] at H; exact H
  clear H
  have H := H1
  clear H1
  simp only [Option.some.injEq, Prod.mk.injEq] at H
  obtain ⟨rfl, rfl, rfl⟩ := H
  go_enter Try.func64, Try.ntmps64
  go_wp2_with (first | ((with_reducible refine gate_callee (f := 105) rfl ?_); refine goesL_ (some 14) rfl rfl Try.func105 (by kernel_rfl) rfl #[.slice A0 l0.length c0, .slice A1 l1.length c1, .slice A2 l2.length c2] rfl (by (try simp only [List.map_toArray, List.map_cons, List.map_nil]); first | done | rfl | (simp only [List.length_drop, List.length_take]; rfl)) ?_; (with_reducible refine (spec_edAsked.calls k _ _ l0 _ _ l1 _ _ l2 false _ ?side1 ?side2 ?side3 ?side4 ?side5 ?side6 A4.out).mono ?_); (case side1 => repeat (first | exact HR0.out | (with_reducible refine Kd.Cal ?_ _) | (with_reducible refine Kd.CdN ?_ _) | (with_reducible refine Kd.Cdr ?_))); (case side2 => exact HC0.out); (case side3 => repeat (first | exact HR1.out | (with_reducible refine Kd.Cal ?_ _) | (with_reducible refine Kd.CdN ?_ _) | (with_reducible refine Kd.Cdr ?_))); (case side4 => exact HC1.out); (case side5 => repeat (first | exact HR2.out | (with_reducible refine Kd.Cal ?_ _) | (with_reducible refine Kd.CdN ?_ _) | (with_reducible refine Kd.Cdr ?_))); (case side6 => exact HC2.out); rintro e w20 ⟨rfl, hb⟩; refine ⟨_, rfl, ?_⟩; have n0_ := As.mk (below_step (by repeat (first | (with_reducible first | exact HB.out | apply bal | apply bdN | apply bd1) | exact HB.out)) hb); clear HB; have HB := n0_; clear n0_; (try clear hb); (try clear hb2); (try clear hk); (try clear hi)))
  go_ret3
  exact ⟨_, _, by first | rfl | (simp [errW_none, errW_some] <;> rfl) | (simp [*, errW_none, errW_some] <;> rfl), by first | exact Kd.R_nil _ _ _ _ _ | exact Kd.N_nil _ _ _ _ _ | exact Kd.V_nil _ _ _ _ _ | exact Kd.Q_nil _ _ _ _ _ | exact Kd.S_nil _ _ _ _ _, by first | exact Kd.R_nil _ _ _ _ _ | exact Kd.N_nil _ _ _ _ _ | exact Kd.V_nil _ _ _ _ _ | exact Kd.Q_nil _ _ _ _ _ | exact Kd.S_nil _ _ _ _ _, by repeat (first | (with_reducible first | exact HB.out | apply bal | apply bdN | apply bd1) | exact HB.out)⟩
mutual
def iPC.j0 : Nat → List (List Int) → List Int → List (S130) → Bool → Option (List Int × List Int × Bool)
 | 0, _, _, _, _ => none
 | k + 1, x0, x1, x2, x23 => if x23 = true then (some (([] : List Int), ([] : List Int), false)) else ((impl_bestPit.f k x0 x1 ([] : List Bool) ([] : List Bool) false).bind fun t549 => ((impl_editValues.f k x1 x2).bind fun t558 => ((impl_bestPit.f k x0 t558 ([] : List Bool) ([] : List Bool) false).bind fun t561 => (iPC.l0 k t549 (([] : List Int)) (([] : List Int)) t561 (t561.length : Int) 0))))
def iPC.l0 : Nat → List Bool → List Int → List Int → List Bool → Int → Int → Option (List Int × List Int × Bool)
 | 0, _, _, _, _, _, _ => none
 | k + 1, x9, x10, x11, x33, x34, x35 => if x35 < x34 then (if 0 ≤ x35 then (if x35 < (x33.length : Int) then (if rdOf false x33 x35 = true then (if x35 < (x9.length : Int) then (iPC.j2 k x9 x10 x11 x35 (rdOf false x33 x35) x33 x34 x35 (!(rdOf false x9 x35))) else (none)) else (iPC.j2 k x9 x10 x11 x35 (rdOf false x33 x35) x33 x34 x35 false)) else (none)) else (none)) else (some (x10, x11, true))
def iPC.j2 : Nat → List Bool → List Int → List Int → Int → Bool → List Bool → Int → Int → Bool → Option (List Int × List Int × Bool)
 | 0, _, _, _, _, _, _, _, _, _ => none
 | k + 1, x9, x10, x11, x12, x13, x33, x34, x35, x47 => if x47 = true then (if x10.length < 17592186044416 then ((some (x10 ++ [x12] : List Int)).bind fun y566 => (if x13 = true then (iPC.l0 k x9 y566 x11 x33 x34 (wrap64 (x35 + 1))) else (if 0 ≤ x12 then (if x12 < (x9.length : Int) then (if rdOf false x9 x12 = true then (if x11.length < 17592186044416 then (iPC.l0 k x9 y566 (x11 ++ [x12]) x33 x34 (wrap64 (x35 + 1))) else (none)) else (iPC.l0 k x9 y566 x11 x33 x34 (wrap64 (x35 + 1)))) else (none)) else (none)))) else (none)) else (if x13 = true then (iPC.l0 k x9 x10 x11 x33 x34 (wrap64 (x35 + 1))) else (if 0 ≤ x12 then (if x12 < (x9.length : Int) then (if rdOf false x9 x12 = true then (if x11.length < 17592186044416 then (iPC.l0 k x9 x10 (x11 ++ [x12]) x33 x34 (wrap64 (x35 + 1))) else (none)) else (iPC.l0 k x9 x10 x11 x33 x34 (wrap64 (x35 + 1)))) else (none)) else (none)))
end
def iPC.f (k : Nat) (l0 : List (List Int)) (l1 : List Int) (l2 : List (S130)) : Option (List Int × List Int × Bool) := (impl_areValued.f k l0 l1).bind fun t547 => (if t547 = true then ((impl_areEdits.f k l1 l2).bind fun t548 => (iPC.j0 k l0 l1 l2 (!t548))) else (iPC.j0 k l0 l1 l2 true))
theorem iPC.mono_l : ∀ k, (∀ y0 y1 y2 y3, LeO (iPC.j0 k y0 y1 y2 y3) (iPC.j0 (k + 1) y0 y1 y2 y3)) ∧ (∀ y0 y1 y2 y3 y4 y5, LeO (iPC.l0 k y0 y1 y2 y3 y4 y5) (iPC.l0 (k + 1) y0 y1 y2 y3 y4 y5)) ∧ (∀ y0 y1 y2 y3 y4 y5 y6 y7 y8, LeO (iPC.j2 k y0 y1 y2 y3 y4 y5 y6 y7 y8) (iPC.j2 (k + 1) y0 y1 y2 y3 y4 y5 y6 y7 y8))
 | 0 => ⟨fun _ _ _ _ r h => by simp [iPC.j0] at h, fun _ _ _ _ _ _ r h => by simp [iPC.l0] at h, fun _ _ _ _ _ _ _ _ _ r h => by simp [iPC.j2] at h⟩
 | k + 1 => by
  obtain ⟨ih0, ih1, ih2⟩ := iPC.mono_l k
  refine ⟨?_, ?_, ?_⟩
  ·intro y0 y1 y2 y3
   unfold iPC.j0
   repeat' first
   | (with_reducible exact ih0 _ _ _ _)
   | (with_reducible exact ih1 _ _ _ _ _ _)
   | (with_reducible exact ih2 _ _ _ _ _ _ _ _ _)
   | (with_reducible exact impl_areEdits.mono _ _ _)
   | (with_reducible exact impl_areValued.mono _ _ _)
   | (with_reducible exact impl_bestPit.mono _ _ _ _ _ _)
   | (with_reducible exact impl_editValues.mono _ _ _)
   | (with_reducible exact LeO.refl _)
   | (with_reducible exact LeO.none _)
   | (with_reducible refine LeO.ite ?_ ?_)
   | (with_reducible refine LeO.bind ?_ (fun _ => ?_))
   | exact ih0 _ _ _ _
   | exact ih1 _ _ _ _ _ _
   | exact ih2 _ _ _ _ _ _ _ _ _
   | exact impl_areEdits.mono _ _ _
   | exact impl_areValued.mono _ _ _
   | exact impl_bestPit.mono _ _ _ _ _ _
   | exact impl_editValues.mono _ _ _
   | exact LeO.none _
   | refine LeO.ite ?_ ?_
   | refine LeO.bind ?_ (fun _ => ?_)
  ·intro y0 y1 y2 y3 y4 y5
   unfold iPC.l0
   repeat' first
   | (with_reducible exact ih0 _ _ _ _)
   | (with_reducible exact ih1 _ _ _ _ _ _)
   | (with_reducible exact ih2 _ _ _ _ _ _ _ _ _)
   | (with_reducible exact impl_areEdits.mono _ _ _)
   | (with_reducible exact impl_areValued.mono _ _ _)
   | (with_reducible exact impl_bestPit.mono _ _ _ _ _ _)
   | (with_reducible exact impl_editValues.mono _ _ _)
   | (with_reducible exact LeO.refl _)
   | (with_reducible exact LeO.none _)
   | (with_reducible refine LeO.ite ?_ ?_)
   | (with_reducible refine LeO.bind ?_ (fun _ => ?_))
   | exact ih0 _ _ _ _
   | exact ih1 _ _ _ _ _ _
   | exact ih2 _ _ _ _ _ _ _ _ _
   | exact impl_areEdits.mono _ _ _
   | exact impl_areValued.mono _ _ _
   | exact impl_bestPit.mono _ _ _ _ _ _
   | exact impl_editValues.mono _ _ _
   | exact LeO.none _
   | refine LeO.ite ?_ ?_
   | refine LeO.bind ?_ (fun _ => ?_)
  ·intro y0 y1 y2 y3 y4 y5 y6 y7 y8
   unfold iPC.j2
   repeat' first
   | (with_reducible exact ih0 _ _ _ _)
   | (with_reducible exact ih1 _ _ _ _ _ _)
   | (with_reducible exact ih2 _ _ _ _ _ _ _ _ _)
   | (with_reducible exact impl_areEdits.mono _ _ _)
   | (with_reducible exact impl_areValued.mono _ _ _)
   | (with_reducible exact impl_bestPit.mono _ _ _ _ _ _)
   | (with_reducible exact impl_editValues.mono _ _ _)
   | (with_reducible exact LeO.refl _)
   | (with_reducible exact LeO.none _)
   | (with_reducible refine LeO.ite ?_ ?_)
   | (with_reducible refine LeO.bind ?_ (fun _ => ?_))
   | exact ih0 _ _ _ _
   | exact ih1 _ _ _ _ _ _
   | exact ih2 _ _ _ _ _ _ _ _ _
   | exact impl_areEdits.mono _ _ _
   | exact impl_areValued.mono _ _ _
   | exact impl_bestPit.mono _ _ _ _ _ _
   | exact impl_editValues.mono _ _ _
   | exact LeO.none _
   | refine LeO.ite ?_ ?_
   | refine LeO.bind ?_ (fun _ => ?_)
theorem iPC.mono : ∀ a0 a1 a2 k, LeO (iPC.f k a0 a1 a2) (iPC.f (k + 1) a0 a1 a2) := by
 intro a0 a1 a2 k
 obtain ⟨ih0, ih1, ih2⟩ := iPC.mono_l k
 unfold iPC.f
 repeat' first
   | (with_reducible exact ih0 _ _ _ _)
   | (with_reducible exact ih1 _ _ _ _ _ _)
   | (with_reducible exact ih2 _ _ _ _ _ _ _ _ _)
   | (with_reducible exact impl_areEdits.mono _ _ _)
   | (with_reducible exact impl_areValued.mono _ _ _)
   | (with_reducible exact impl_bestPit.mono _ _ _ _ _ _)
   | (with_reducible exact impl_editValues.mono _ _ _)
   | (with_reducible exact LeO.refl _)
   | (with_reducible exact LeO.none _)
   | (with_reducible refine LeO.ite ?_ ?_)
   | (with_reducible refine LeO.bind ?_ (fun _ => ?_))
   | exact ih0 _ _ _ _
   | exact ih1 _ _ _ _ _ _
   | exact ih2 _ _ _ _ _ _ _ _ _
   | exact impl_areEdits.mono _ _ _
   | exact impl_areValued.mono _ _ _
   | exact impl_bestPit.mono _ _ _ _ _ _
   | exact impl_editValues.mono _ _ _
   | exact LeO.none _
   | refine LeO.ite ?_ ?_
   | refine LeO.bind ?_ (fun _ => ?_)
set_option maxHeartbeats 8000000 in
set_option maxRecDepth 100000 in
theorem iPC.calls (k : Nat) (A0 : Option Addr) (c0 : Nat) (l0 : List (List Int)) (A1 : Option Addr) (c1 : Nat) (l1 : List Int) (A2 : Option Addr) (c2 : Nat) (l2 : List (S130)) (r1 : List Int) (r2 : List Int) (r3 : Bool) (w : World) (hr0 : Kd.C (Kd.slice 3 (Kd.int .i64)) w A0 l0.length l0) (hc0 : l0.length ≤ c0) (hr1 : Kd.C (Kd.int .i64) w A1 l1.length l1) (hc1 : l1.length ≤ c1) (hr2 : Kd.C k130 w A2 l2.length l2) (hc2 : l2.length ≤ c2) (h : iPC.f k l0 l1 l2 = some (r1, r2, r3)) :
  Calls Try.prog 65 #[.slice A0 l0.length c0, .slice A1 l1.length c1, .slice A2 l2.length c2] w fun e w' => ∃ v0_ v1_ : Value, e = .returned (.tuple #[v0_, v1_, .bool r3]) ∧ Kd.R (Kd.int .i64) 3 w' w.heap.size (fun k_ => some k_ ≠ (v1_ : Value).ownBlock) v0_ r1 ∧ Kd.R (Kd.int .i64) 3 w' w.heap.size (fun k_ => some k_ ≠ (v0_ : Value).ownBlock) v1_ r2 ∧ Below w.heap.size w w' := by
 have HR0 := As.mk hr0
 have HC0 := As.mk hc0
 clear hr0 hc0
 have HR1 := As.mk hr1
 have HC1 := As.mk hc1
 clear hr1 hc1
 have HR2 := As.mk hr2
 have HC2 := As.mk hc2
 clear hr2 hc2
 have HB := As.mk (Below.refl w.heap.size w)
 have H : ((impl_areValued.f k l0 l1).bind fun t547 => (if t547 = true then ((impl_areEdits.f k l1 l2).bind fun t548 => (iPC.j0 k l0 l1 l2 (!t548))) else (iPC.j0 k l0 l1 l2 true))) = some (r1, r2, r3) := h
 clear h
 have HC4 := As.mk H
 clear H
 go_enter Try.func65, Try.ntmps65
 go_upto_region 1 with (fail)
 go_cut [23] (fun v23 wc => ∃ (kq : Nat) (x23_3 : Bool), v23 = .bool x23_3 ∧ As (iPC.j0 kq l0 l1 l2 x23_3 = some (r1, r2, r3)) ∧ As (kq ≤ k) ∧ As (Below w.heap.size w wc))
 case first =>
  have H := HC4.out
  clear HC4
  replace H := Option.bind_eq_some_iff.mp H
  obtain ⟨t547, A50, H⟩ := H
  try dsimp only at H
  have A5 := As.mk A50
  clear A50
  by_cases c6 : t547 = true
  ·subst c6
   have H1 : ((impl_areEdits.f k l1 l2).bind fun t548 => (iPC.j0 k l0 l1 l2 (!t548))) = some (r1, r2, r3) := by rw [if_pos rfl] at H; exact H
   clear H
   have H := H1
   clear H1
   replace H := Option.bind_eq_some_iff.mp H
   obtain ⟨t548, A70, H⟩ := H
   try dsimp only at H
   have A7 := As.mk A70
   clear A70
   have H' := As.mk H
   clear H
   go_wp2_with (first | ((with_reducible refine gate_callee (f := 103) rfl ?_); refine goesL_ (some 16) rfl rfl Try.func103 (by kernel_rfl) rfl #[.slice A0 l0.length c0, .slice A1 l1.length c1] rfl (by (try simp only [List.map_toArray, List.map_cons, List.map_nil]); first | done | rfl | (simp only [List.length_drop, List.length_take]; rfl)) ?_; (with_reducible refine (impl_areValued.calls k _ _ l0 _ _ l1 true _ ?side1 ?side2 ?side3 ?side4 A5.out).mono ?_); (case side1 => repeat (first | exact (Kd.C_below HR0.out HB.out) | (with_reducible refine Kd.Cal ?_ _) | (with_reducible refine Kd.CdN ?_ _) | (with_reducible refine Kd.Cdr ?_))); (case side2 => exact HC0.out); (case side3 => repeat (first | exact (Kd.C_below HR1.out HB.out) | (with_reducible refine Kd.Cal ?_ _) | (with_reducible refine Kd.CdN ?_ _) | (with_reducible refine Kd.Cdr ?_))); (case side4 => exact HC1.out); rintro e w' ⟨rfl, ⟨nd, rfl⟩⟩; refine ⟨_, rfl, ?_⟩) | (go_at_call 109; (with_reducible refine (impl_areEdits.calls k _ _ l1 _ _ l2 t548 _ ?side1 ?side2 ?side3 ?side4 A7.out).mono ?_); (case side1 => repeat (first | exact (Kd.C_below HR1.out (by repeat (first | (with_reducible first | exact HB.out | apply bal | apply bdN | apply bd1) | exact HB.out))) | (with_reducible refine Kd.Cal ?_ _) | (with_reducible refine Kd.CdN ?_ _) | (with_reducible refine Kd.Cdr ?_))); (case side2 => exact HC1.out); (case side3 => repeat (first | exact (Kd.C_below HR2.out (by repeat (first | (with_reducible first | exact HB.out | apply bal | apply bdN | apply bd1) | exact HB.out))) | (with_reducible refine Kd.Cal ?_ _) | (with_reducible refine Kd.CdN ?_ _) | (with_reducible refine Kd.Cdr ?_))); (case side4 => exact HC2.out); rintro e w8 ⟨rfl, hb⟩; have n0_ := As.mk (below_step (by repeat (first | (with_reducible first | exact HB.out | apply bal | apply bdN | apply bd1) | exact HB.out)) hb); clear HB; have HB := n0_; clear n0_; (try clear hb); (try clear hb2); (try clear hk); (try clear hi)))
   go_meet
   case rel => exact ⟨_, (!t548), (by first | rfl | (simp; done) | (simp [*]; done)), H', ⟨by first | omega | exact Nat.le_refl _⟩, ⟨by repeat (first | (with_reducible first | exact HB.out | apply bal | apply bdN | apply bd1) | exact HB.out)⟩⟩
  ·replace c6 := Bool.eq_false_iff.mpr c6
   subst c6
   have H1 : (iPC.j0 k l0 l1 l2 true) = some (r1, r2, r3) := by rw [if_neg (show ¬ (false = true) by decide)] at H; exact H
   clear H
   have H := H1
   clear H1
   have H' := As.mk H
   clear H
   go_wp2_with (first | ((with_reducible refine gate_callee (f := 103) rfl ?_); refine goesL_ (some 16) rfl rfl Try.func103 (by kernel_rfl) rfl #[.slice A0 l0.length c0, .slice A1 l1.length c1] rfl (by (try simp only [List.map_toArray, List.map_cons, List.map_nil]); first | done | rfl | (simp only [List.length_drop, List.length_take]; rfl)) ?_; (with_reducible refine (impl_areValued.calls k _ _ l0 _ _ l1 false _ ?side1 ?side2 ?side3 ?side4 A5.out).mono ?_); (case side1 => repeat (first | exact (Kd.C_below HR0.out HB.out) | (with_reducible refine Kd.Cal ?_ _) | (with_reducible refine Kd.CdN ?_ _) | (with_reducible refine Kd.Cdr ?_))); (case side2 => exact HC0.out); (case side3 => repeat (first | exact (Kd.C_below HR1.out HB.out) | (with_reducible refine Kd.Cal ?_ _) | (with_reducible refine Kd.CdN ?_ _) | (with_reducible refine Kd.Cdr ?_))); (case side4 => exact HC1.out); rintro e w' ⟨rfl, ⟨nd, rfl⟩⟩; refine ⟨_, rfl, ?_⟩))
   go_meet
   case rel => exact ⟨_, (true), (by first | rfl | (simp; done) | (simp [*]; done)), H', ⟨by first | omega | exact Nat.le_refl _⟩, ⟨by repeat (first | (with_reducible first | exact HB.out | apply bal | apply bdN | apply bd1) | exact HB.out)⟩⟩
 case rest =>
  clear HC4
  try clear c1
  try clear c2
  try clear p2
  try clear c6
  obtain ⟨kq, x23_3, rfl, HA, HJ3, HB⟩ := hcut
  cases kq with
  | zero => exact absurd HA.out (by simp [iPC.j0])
  | succ kj3 =>
   have H := HA.out
   clear HA
   simp only [iPC.j0] at H
   by_cases c9 : x23_3 = true
   ·subst c9
    have H1 : (some (([] : List Int), ([] : List Int), false)) = some (r1, r2, r3) := by rw [if_pos rfl] at H; exact H
    clear H
    have H := H1
    clear H1
    simp only [Option.some.injEq, Prod.mk.injEq] at H
    obtain ⟨rfl, rfl, rfl⟩ := H
    go_wp2
    go_ret3
    exact ⟨_, _, by first | rfl | (simp [errW_none, errW_some] <;> rfl) | (simp [*, errW_none, errW_some] <;> rfl), by first | exact Kd.R_nil _ _ _ _ _ | exact Kd.N_nil _ _ _ _ _ | exact Kd.V_nil _ _ _ _ _ | exact Kd.Q_nil _ _ _ _ _ | exact Kd.S_nil _ _ _ _ _, by first | exact Kd.R_nil _ _ _ _ _ | exact Kd.N_nil _ _ _ _ _ | exact Kd.V_nil _ _ _ _ _ | exact Kd.Q_nil _ _ _ _ _ | exact Kd.S_nil _ _ _ _ _, by repeat (first | (with_reducible first | exact HB.out | apply bal | apply bdN | apply bd1) | exact HB.out)⟩
   ·replace c9 := Bool.eq_false_iff.mpr c9
    subst c9
    have H1 : ((impl_bestPit.f kj3 l0 l1 ([] : List Bool) ([] : List Bool) false).bind fun t549 => ((impl_editValues.f kj3 l1 l2).bind fun t558 => ((impl_bestPit.f kj3 l0 t558 ([] : List Bool) ([] : List Bool) false).bind fun t561 => (iPC.l0 kj3 t549 (([] : List Int)) (([] : List Int)) t561 (t561.length : Int) 0)))) = some (r1, r2, r3) := by rw [if_neg (show ¬ (false = true) by decide)] at H; exact H
    clear H
    have H := H1
    clear H1
    replace H := Option.bind_eq_some_iff.mp H
    obtain ⟨t549, A100, H⟩ := H
    try dsimp only at H
    have A10 := As.mk A100
    clear A100
    obtain ⟨y552, hy552⟩ : ∃ y_ : List Int, y_ = (([] : List Int)) := ⟨_, rfl⟩
    replace H : ((impl_editValues.f kj3 l1 l2).bind fun t558 => ((impl_bestPit.f kj3 l0 t558 ([] : List Bool) ([] : List Bool) false).bind fun t561 => (iPC.l0 kj3 t549 y552 (([] : List Int)) t561 (t561.length : Int) 0))) = some (r1, r2, r3) := by first | (rw [hy552]; with_reducible exact H) | (have H2_ := (Option.bind_some _ _).symm.trans H; rw [hy552]; with_reducible exact H2_) | (have H2_ := (Option.bind_some _ _).symm.trans H; with_reducible exact H2_) | with_reducible exact H | (rw [hy552]; exact H) | exact H
    have Ny552 := As.mk hy552
    clear hy552
    obtain ⟨y555, hy555⟩ : ∃ y_ : List Int, y_ = (([] : List Int)) := ⟨_, rfl⟩
    replace H : ((impl_editValues.f kj3 l1 l2).bind fun t558 => ((impl_bestPit.f kj3 l0 t558 ([] : List Bool) ([] : List Bool) false).bind fun t561 => (iPC.l0 kj3 t549 y552 y555 t561 (t561.length : Int) 0))) = some (r1, r2, r3) := by first | (rw [hy555]; with_reducible exact H) | (have H2_ := (Option.bind_some _ _).symm.trans H; rw [hy555]; with_reducible exact H2_) | (have H2_ := (Option.bind_some _ _).symm.trans H; with_reducible exact H2_) | with_reducible exact H | (rw [hy555]; exact H) | exact H
    have Ny555 := As.mk hy555
    clear hy555
    replace H := Option.bind_eq_some_iff.mp H
    obtain ⟨t558, A110, H⟩ := H
    try dsimp only at H
    have A11 := As.mk A110
    clear A110
    replace H := Option.bind_eq_some_iff.mp H
    obtain ⟨t561, A120, H⟩ := H
    try dsimp only at H
    have A12 := As.mk A120
    clear A120
    have H' := As.mk H
    clear H
    go_wp2_with (first | ((with_reducible refine gate_callee (f := 115) rfl ?_); refine goesL_ (some 26) rfl rfl Try.func115 (by kernel_rfl) rfl #[.slice A0 l0.length c0, .slice A1 l1.length c1, .slice none 0 0, .slice none 0 0, .bool false] rfl (by (try simp only [List.map_toArray, List.map_cons, List.map_nil]); first | done | rfl | (simp only [List.length_drop, List.length_take]; rfl)) ?_; (refine (impl_bestPit.calls kj3 _ _ l0 _ _ l1 _ _ ([] : List Bool) _ _ ([] : List Bool) false t549 _ ?side1 ?side2 ?side3 ?side4 ?side5 ?side6 ?side7 ?side8 A10.out).mono ?_); (case side1 => repeat (first | exact (Kd.C_below HR0.out HB.out) | (with_reducible refine Kd.Cal ?_ _) | (with_reducible refine Kd.CdN ?_ _) | (with_reducible refine Kd.Cdr ?_))); (case side2 => exact HC0.out); (case side3 => repeat (first | exact (Kd.C_below HR1.out HB.out) | (with_reducible refine Kd.Cal ?_ _) | (with_reducible refine Kd.CdN ?_ _) | (with_reducible refine Kd.Cdr ?_))); (case side4 => exact HC1.out); (case side5 => exact Kd.C_nil _ _); (case side6 => exact Nat.le_refl _); (case side7 => exact Kd.C_nil _ _); (case side8 => exact Nat.le_refl _); rintro e w13 ⟨v550, rfl, ho0, hb⟩; refine ⟨_, rfl, ?_⟩; have n0_ := As.mk (Kd.Q_lower ho0 (below_size (by repeat (first | (with_reducible first | exact HB.out | apply bal | apply bdN | apply bd1) | exact HB.out)))); have n1_ := As.mk (below_step (by repeat (first | (with_reducible first | exact HB.out | apply bal | apply bdN | apply bd1) | exact HB.out)) hb); clear HB; have HO551 := n0_; have HB := n1_; clear n0_ n1_; (try clear hb); (try clear hb2); (try clear hk); (try clear hi); (try clear ho0)) | ((with_reducible refine gate_dst (N := 27) rfl ?_); refine Kd.R_lit (Kd.int .i64) _ 3 ?hg (N := 27) ?hd (xs := ([] : List Int)) (inner := []) (ok := fun _ => True) (okp := fun _ => True) ?hr ?hp (fun _ hk => hk) trivial (Below.refl _ _) (Nat.le_refl _) (by simp) ?_; (case hd => rfl); (case hg => rfl); (case hr => first | (go_simp; done) | (go_simp; rfl)); (case hp => exact (Reps.none _ _)); intro v553 w14 ho15 hb hg_ hnew_; clear hg_ hnew_; (first | rw [← Ny552.out] at ho15 | (simp only [Int.reduceToNat] at ho15; rw [← Ny552.out] at ho15)); have n0_ := As.mk (Kd.Q_below (by (with_reducible repeat (first | apply Kd.Q_alloc | apply Kd.Q_drewN | apply Kd.Q_drew)); exact HO551.out) hb); have n1_ := As.mk (Kd.R_lower ho15 (below_size (by repeat (first | (with_reducible first | exact HB.out | apply bal | apply bdN | apply bd1) | exact HB.out)))); have n2_ := As.mk (below_step (by repeat (first | (with_reducible first | exact HB.out | apply bal | apply bdN | apply bd1) | exact HB.out)) hb); clear HO551; clear HB; have HO551 := n0_; have HO554 := n1_; have HB := n2_; clear n0_ n1_ n2_; clear hb ho15) | ((with_reducible refine gate_dst (N := 28) rfl ?_); refine Kd.R_lit (Kd.int .i64) _ 3 ?hg (N := 28) ?hd (xs := ([] : List Int)) (inner := []) (ok := fun _ => True) (okp := fun _ => True) ?hr ?hp (fun _ hk => hk) trivial (Below.refl _ _) (Nat.le_refl _) (by simp) ?_; (case hd => rfl); (case hg => rfl); (case hr => first | (go_simp; done) | (go_simp; rfl)); (case hp => exact (Reps.none _ _)); intro v556 w16 ho17 hb hg_ hnew_; clear hg_ hnew_; (first | rw [← Ny555.out] at ho17 | (simp only [Int.reduceToNat] at ho17; rw [← Ny555.out] at ho17)); have n0_ := As.mk (Kd.Q_below (by (with_reducible repeat (first | apply Kd.Q_alloc | apply Kd.Q_drewN | apply Kd.Q_drew)); exact HO551.out) hb); have n1_ := As.mk (Kd.R_elder' (by (with_reducible repeat (first | apply Kd.Ral | apply Kd.RdN | apply Kd.Rdr)); exact HO554.out) (Kd.R_base ho17) hb); have n2_ := As.mk (Kd.R_lower (Kd.R_new' ho17 (Kd.R_lt (by (with_reducible repeat (first | apply Kd.Ral | apply Kd.RdN | apply Kd.Rdr)); exact HO554.out))) (below_size (by repeat (first | (with_reducible first | exact HB.out | apply bal | apply bdN | apply bd1) | exact HB.out)))); have n3_ := As.mk (below_step (by repeat (first | (with_reducible first | exact HB.out | apply bal | apply bdN | apply bd1) | exact HB.out)) hb); clear HO551; clear HO554; clear HB; have HO551 := n0_; have HO554 := n1_; have HO557 := n2_; have HB := n3_; clear n0_ n1_ n2_ n3_; clear hb ho17) | ((with_reducible refine gate_callee (f := 111) rfl ?_); refine goesL_ (some 32) rfl rfl Try.func111 (by kernel_rfl) rfl #[.slice A1 l1.length c1, .slice A2 l2.length c2] rfl (by (try simp only [List.map_toArray, List.map_cons, List.map_nil]); first | done | rfl | (simp only [List.length_drop, List.length_take]; rfl)) ?_; (with_reducible refine (impl_editValues.calls kj3 _ _ l1 _ _ l2 t558 _ ?side1 ?side2 ?side3 ?side4 A11.out).mono ?_); (case side1 => repeat (first | exact (Kd.C_below HR1.out HB.out) | (with_reducible refine Kd.Cal ?_ _) | (with_reducible refine Kd.CdN ?_ _) | (with_reducible refine Kd.Cdr ?_))); (case side2 => exact HC1.out); (case side3 => repeat (first | exact (Kd.C_below HR2.out HB.out) | (with_reducible refine Kd.Cal ?_ _) | (with_reducible refine Kd.CdN ?_ _) | (with_reducible refine Kd.Cdr ?_))); (case side4 => exact HC2.out); rintro e w18 ⟨v559, rfl, ho0, hb⟩; refine ⟨_, rfl, ?_⟩; have n0_ := As.mk (Kd.Q_below (by (with_reducible repeat (first | apply Kd.Q_alloc | apply Kd.Q_drewN | apply Kd.Q_drew)); exact HO551.out) hb); have n1_ := As.mk (Kd.R_elder' (by (with_reducible repeat (first | apply Kd.Ral | apply Kd.RdN | apply Kd.Rdr)); exact HO554.out) (Kd.R_base ho0) hb); have n2_ := As.mk (Kd.R_elder' (by (with_reducible repeat (first | apply Kd.Ral | apply Kd.RdN | apply Kd.Rdr)); exact HO557.out) (Kd.R_base ho0) hb); have n3_ := As.mk (Kd.R_lower (Kd.R_new' (Kd.R_new' ho0 (Kd.R_lt (by (with_reducible repeat (first | apply Kd.Ral | apply Kd.RdN | apply Kd.Rdr)); exact HO554.out))) (Kd.R_lt (by (with_reducible repeat (first | apply Kd.Ral | apply Kd.RdN | apply Kd.Rdr)); exact HO557.out))) (below_size (by repeat (first | (with_reducible first | exact HB.out | apply bal | apply bdN | apply bd1) | exact HB.out)))); have n4_ := As.mk (below_step (by repeat (first | (with_reducible first | exact HB.out | apply bal | apply bdN | apply bd1) | exact HB.out)) hb); clear HO551; clear HO554; clear HO557; clear HB; have HO551 := n0_; have HO554 := n1_; have HO557 := n2_; have HO560 := n3_; have HB := n4_; clear n0_ n1_ n2_ n3_ n4_; (try clear hb); (try clear hb2); (try clear hk); (try clear hi); (try clear ho0); obtain ⟨Ao19, co19, eo19⟩ := Kd.R_slice HO560.out; subst eo19) | ((with_reducible refine gate_callee (f := 115) rfl ?_); refine goesL_ (some 33) rfl rfl Try.func115 (by kernel_rfl) rfl #[.slice A0 l0.length c0, .slice Ao19 t558.length co19, .slice none 0 0, .slice none 0 0, .bool false] rfl (by (try simp only [List.map_toArray, List.map_cons, List.map_nil]); first | done | rfl | (simp only [List.length_drop, List.length_take]; rfl)) ?_; (refine (impl_bestPit.calls kj3 _ _ l0 _ _ t558 _ _ ([] : List Bool) _ _ ([] : List Bool) false t561 _ ?side1 ?side2 ?side3 ?side4 ?side5 ?side6 ?side7 ?side8 A12.out).mono ?_); (case side1 => repeat (first | exact (Kd.C_below HR0.out HB.out) | (with_reducible refine Kd.Cal ?_ _) | (with_reducible refine Kd.CdN ?_ _) | (with_reducible refine Kd.Cdr ?_))); (case side2 => exact HC0.out); (case side3 => repeat (first | exact (Kd.R_reads' HO560.out).2.2 | (with_reducible refine Kd.Cal ?_ _) | (with_reducible refine Kd.CdN ?_ _) | (with_reducible refine Kd.Cdr ?_))); (case side4 => exact (Kd.R_reads' HO560.out).2.1); (case side5 => exact Kd.C_nil _ _); (case side6 => exact Nat.le_refl _); (case side7 => exact Kd.C_nil _ _); (case side8 => exact Nat.le_refl _); rintro e w20 ⟨v562, rfl, ho0, hb⟩; refine ⟨_, rfl, ?_⟩; have n0_ := As.mk (Kd.Q_elder' (by (with_reducible repeat (first | apply Kd.Q_alloc | apply Kd.Q_drewN | apply Kd.Q_drew)); exact HO551.out) (Kd.Q_base ho0) hb); have n1_ := As.mk (Kd.R_below (by (with_reducible repeat (first | apply Kd.Ral | apply Kd.RdN | apply Kd.Rdr)); exact HO554.out) hb); have n2_ := As.mk (Kd.R_below (by (with_reducible repeat (first | apply Kd.Ral | apply Kd.RdN | apply Kd.Rdr)); exact HO557.out) hb); have n3_ := As.mk (Kd.R_below (by (with_reducible repeat (first | apply Kd.Ral | apply Kd.RdN | apply Kd.Rdr)); exact HO560.out) hb); have n4_ := As.mk (Kd.Q_lower (Kd.Q_new' ho0 (Kd.Q_lt (by (with_reducible repeat (first | apply Kd.Q_alloc | apply Kd.Q_drewN | apply Kd.Q_drew)); exact HO551.out))) (below_size (by repeat (first | (with_reducible first | exact HB.out | apply bal | apply bdN | apply bd1) | exact HB.out)))); have n5_ := As.mk (below_step (by repeat (first | (with_reducible first | exact HB.out | apply bal | apply bdN | apply bd1) | exact HB.out)) hb); clear HO551; clear HO554; clear HO557; clear HO560; clear HB; have HO551 := n0_; have HO554 := n1_; have HO557 := n2_; have HO560 := n3_; have HO563 := n4_; have HB := n5_; clear n0_ n1_ n2_ n3_ n4_ n5_; (try clear hb); (try clear hb2); (try clear hk); (try clear hi); (try clear ho0); obtain ⟨Ao21, co21, eo21, _⟩ := Kd.Q_slice HO563.out; subst eo21))
    go_loopg [10, 11, 35] kj3 (fun kq v10 v11 v35 w' => ∃ (x10_2 : List Int) (x11_2 : List Int) (x35_2 : Int), v35 = .int .i64 x35_2 ∧ As (iPC.l0 kq t549 x10_2 x11_2 t561 (t561.length : Int) x35_2 = some (r1, r2, r3)) ∧ As (kq ≤ kj3) ∧ As (Kd.Q Kd.bool 4 w' w.heap.size (fun k_ => some k_ ≠ ((.slice Ao21 t561.length co21) : Value).ownBlock) v550 t549) ∧ As (Kd.R (Kd.int .i64) 3 w' w.heap.size (fun k_ => some k_ ≠ (v11 : Value).ownBlock) v10 x10_2) ∧ As (Kd.R (Kd.int .i64) 3 w' w.heap.size (fun k_ => some k_ ≠ (v10 : Value).ownBlock) v11 x11_2) ∧ As (Kd.Q Kd.bool 4 w' w.heap.size (fun k_ => some k_ ≠ (v550 : Value).ownBlock) (.slice Ao21 t561.length co21) t561) ∧ As (Below w.heap.size w w'))
    case atStart => exact ⟨(y552), (y555), (0), (by first | rfl | (simp; done) | (simp [*]; done)), H', ⟨Nat.le_refl _⟩, ⟨by (with_reducible repeat (first | apply Kd.Q_alloc | apply Kd.Q_drewN | apply Kd.Q_drew)); exact Kd.Q_mono HO551.out (fun _ hk => hk.2)⟩, ⟨by (with_reducible repeat (first | apply Kd.Ral | apply Kd.RdN | apply Kd.Rdr)); exact Kd.R_mono HO554.out (fun _ hk => hk.1.2)⟩, ⟨by (with_reducible repeat (first | apply Kd.Ral | apply Kd.RdN | apply Kd.Rdr)); exact Kd.R_mono HO557.out (fun _ hk => hk.1.2)⟩, ⟨by (with_reducible repeat (first | apply Kd.Q_alloc | apply Kd.Q_drewN | apply Kd.Q_drew)); exact Kd.Q_mono HO563.out (fun _ hk => hk.2)⟩, ⟨by repeat (first | (with_reducible first | exact HB.out | apply bal | apply bdN | apply bd1) | exact HB.out)⟩⟩
    case round =>
     clear H'
     try clear c1
     try clear c2
     try clear p2
     try clear c6
     try clear c9
     try clear c10
     try clear c11
     try clear p2
     obtain ⟨x10_2, x11_2, x35_2, rfl, HA, HK2, HO_9, HO_10, HO_11, HO_33, HB⟩ := hrel
     cases gk with
     | zero => exact absurd HA.out (by simp [iPC.l0])
     | succ k2 =>
      have H := HA.out
      clear HA
      simp only [iPC.l0] at H
      by_cases c22 : x35_2 < (t561.length : Int)
      ·rw [if_pos c22] at H
       have c22b0 : decide (x35_2 < (t561.length : Int)) = true := decide_eq_true c22
       clear c22
       by_cases c23 : 0 ≤ x35_2
       ·rw [if_pos c23] at H
        have c23b0 : decide (0 ≤ x35_2) = true := decide_eq_true c23
        clear c23
        by_cases c24 : x35_2 < (t561.length : Int)
        ·rw [if_pos c24] at H
         have c24b0 : decide (x35_2 < (t561.length : Int)) = true := decide_eq_true c24
         clear c24
         have HC25 := As.mk H
         clear H
         have p564 : 0 ≤ (x35_2 : Int) := of_decide_eq_true (by first | (with_reducible assumption) | assumption)
         have q564 : x35_2 < (t561.length : Int) := of_decide_eq_true (by first | (with_reducible assumption) | assumption)
         obtain ⟨ad564, e564, hx564_0⟩ := Kd.at_bool (Kd.Q_reads' HO_33.out).2.2 x35_2 p564 q564
         cases e564
         replace p564 := eq_true p564
         replace q564 := eq_true q564
         obtain ⟨bX, hbX⟩ : ∃ b_ : Bool, b_ = rdOf false t561 x35_2 := ⟨_, rfl⟩
         rw [← hbX] at hx564_0 HC25
         clear hbX
         go_upto_region 8 with (fail)
         go_cut [47] (fun v47 wc => ∃ (kq : Nat) (x47_24 : Bool), v47 = .bool x47_24 ∧ As (iPC.j2 kq t549 x10_2 x11_2 x35_2 (bX) t561 (t561.length : Int) x35_2 x47_24 = some (r1, r2, r3)) ∧ As (kq ≤ k2) ∧ As (Kd.Q Kd.bool 4 wc w.heap.size (fun k_ => some k_ ≠ ((.slice (some ad564) t561.length co21) : Value).ownBlock) v550 t549) ∧ As (Kd.R (Kd.int .i64) 3 wc w.heap.size (fun k_ => some k_ ≠ (u11 : Value).ownBlock) u10 x10_2) ∧ As (Kd.R (Kd.int .i64) 3 wc w.heap.size (fun k_ => some k_ ≠ (u10 : Value).ownBlock) u11 x11_2) ∧ As (Kd.Q Kd.bool 4 wc w.heap.size (fun k_ => some k_ ≠ (v550 : Value).ownBlock) (.slice (some ad564) t561.length co21) t561) ∧ As (Below w.heap.size w wc))
         case first =>
          have H := HC25.out
          clear HC25
          by_cases c27 : bX = true
          ·subst c27
           have H1 : (if x35_2 < (t549.length : Int) then (iPC.j2 k2 t549 x10_2 x11_2 x35_2 true t561 (t561.length : Int) x35_2 (!(rdOf false t549 x35_2))) else (none)) = some (r1, r2, r3) := by rw [if_pos rfl] at H; exact H
           clear H
           have H := H1
           clear H1
           by_cases c28 : x35_2 < (t549.length : Int)
           ·rw [if_pos c28] at H
            have c28b0 : decide (x35_2 < (t549.length : Int)) = true := decide_eq_true c28
            clear c28
            have H' := As.mk H
            clear H
            obtain ⟨Ao29, co29, eo29, _⟩ := Kd.Q_slice HO_9.out
            subst eo29
            have p565 : 0 ≤ (x35_2 : Int) := of_decide_eq_true (by first | (with_reducible assumption) | assumption)
            have q565 : x35_2 < (t549.length : Int) := of_decide_eq_true (by first | (with_reducible assumption) | assumption)
            obtain ⟨ad565, e565, hx565_0⟩ := Kd.at_bool (Kd.Q_reads' HO_9.out).2.2 x35_2 p565 q565
            cases e565
            replace p565 := eq_true p565
            replace q565 := eq_true q565
            go_wp2
            go_meet
            case rel => exact ⟨_, (!(rdOf false t549 x35_2)), (by first | rfl | (simp; done) | (simp [*]; done)), H', ⟨by have := HJ3.out; have := HK2.out; first | omega | exact Nat.le_refl _⟩, ⟨by (with_reducible repeat (first | apply Kd.Q_alloc | apply Kd.Q_drewN | apply Kd.Q_drew)); exact HO_9.out⟩, ⟨by (with_reducible repeat (first | apply Kd.Ral | apply Kd.RdN | apply Kd.Rdr)); exact HO_10.out⟩, ⟨by (with_reducible repeat (first | apply Kd.Ral | apply Kd.RdN | apply Kd.Rdr)); exact HO_11.out⟩, ⟨by (with_reducible repeat (first | apply Kd.Q_alloc | apply Kd.Q_drewN | apply Kd.Q_drew)); exact HO_33.out⟩, ⟨by repeat (first | (with_reducible first | exact HB.out | apply bal | apply bdN | apply bd1) | exact HB.out)⟩⟩
           ·rw [if_neg c28] at H
            exact absurd H (by simp)
          ·replace c27 := Bool.eq_false_iff.mpr c27
           subst c27
           have H1 : (iPC.j2 k2 t549 x10_2 x11_2 x35_2 false t561 (t561.length : Int) x35_2 false) = some (r1, r2, r3) := by rw [if_neg (show ¬ (false = true) by decide)] at H; exact H
           clear H
           have H := H1
           clear H1
           have H' := As.mk H
           clear H
           go_wp2
           go_meet
           case rel => exact ⟨_, (false), (by first | rfl | (simp; done) | (simp [*]; done)), H', ⟨by have := HJ3.out; have := HK2.out; first | omega | exact Nat.le_refl _⟩, ⟨by (with_reducible repeat (first | apply Kd.Q_alloc | apply Kd.Q_drewN | apply Kd.Q_drew)); exact HO_9.out⟩, ⟨by (with_reducible repeat (first | apply Kd.Ral | apply Kd.RdN | apply Kd.Rdr)); exact HO_10.out⟩, ⟨by (with_reducible repeat (first | apply Kd.Ral | apply Kd.RdN | apply Kd.Rdr)); exact HO_11.out⟩, ⟨by (with_reducible repeat (first | apply Kd.Q_alloc | apply Kd.Q_drewN | apply Kd.Q_drew)); exact HO_33.out⟩, ⟨by repeat (first | (with_reducible first | exact HB.out | apply bal | apply bdN | apply bd1) | exact HB.out)⟩⟩
         case rest =>
          clear HC25
          try clear c1
          try clear c2
          try clear p2
          try clear q2
          try clear p5
          try clear q5
          try clear hx5
          try clear c6
          try clear c9
          try clear c10
          try clear c11
          try clear c22
          try clear c22b0
          try clear c23
          try clear c23b0
          try clear c24
          try clear c24b0
          try clear q26
          try clear c27
          try clear c28
          try clear c28b0
          try clear hx564_0
          try clear hx565_0
          try clear p2
          try clear p564
          try clear p565
          try clear q564
          try clear q565
          obtain ⟨kq, x47_24, rfl, HA, HJ24, HO_9, HO_10, HO_11, HO_33, HB⟩ := hcut
          cases kq with
          | zero => exact absurd HA.out (by simp [iPC.j2])
          | succ kj24 =>
           have H := HA.out
           clear HA
           simp only [iPC.j2] at H
           by_cases c30 : x47_24 = true
           ·subst c30
            have H1 : (if x10_2.length < 17592186044416 then ((some (x10_2 ++ [x35_2] : List Int)).bind fun y566 => (if (bX) = true then (iPC.l0 kj24 t549 y566 x11_2 t561 (t561.length : Int) (wrap64 (x35_2 + 1))) else (if 0 ≤ x35_2 then (if x35_2 < (t549.length : Int) then (if rdOf false t549 x35_2 = true then (if x11_2.length < 17592186044416 then (iPC.l0 kj24 t549 y566 (x11_2 ++ [x35_2]) t561 (t561.length : Int) (wrap64 (x35_2 + 1))) else (none)) else (iPC.l0 kj24 t549 y566 x11_2 t561 (t561.length : Int) (wrap64 (x35_2 + 1)))) else (none)) else (none)))) else (none)) = some (r1, r2, r3) := by rw [if_pos rfl] at H; exact H
            clear H
            have H := H1
            clear H1
            by_cases c31 : x10_2.length < 17592186044416
            ·rw [if_pos c31] at H
             have LMc31 := As.mk c31
             clear c31
             obtain ⟨y566, hy566⟩ : ∃ y_ : List Int, y_ = (x10_2 ++ [x35_2]) := ⟨_, rfl⟩
             replace H : (if (bX) = true then (iPC.l0 kj24 t549 y566 x11_2 t561 (t561.length : Int) (wrap64 (x35_2 + 1))) else (if 0 ≤ x35_2 then (if x35_2 < (t549.length : Int) then (if rdOf false t549 x35_2 = true then (if x11_2.length < 17592186044416 then (iPC.l0 kj24 t549 y566 (x11_2 ++ [x35_2]) t561 (t561.length : Int) (wrap64 (x35_2 + 1))) else (none)) else (iPC.l0 kj24 t549 y566 x11_2 t561 (t561.length : Int) (wrap64 (x35_2 + 1)))) else (none)) else (none))) = some (r1, r2, r3) := by first | (rw [hy566]; with_reducible exact H) | (have H2_ := (Option.bind_some _ _).symm.trans H; rw [hy566]; with_reducible exact H2_) | (have H2_ := (Option.bind_some _ _).symm.trans H; with_reducible exact H2_) | with_reducible exact H | (rw [hy566]; exact H) | exact H
             have Ny566 := As.mk hy566
             clear hy566
             by_cases c33 : bX = true
             ·rw [if_pos c33] at H
              have c33b0 : bX = true := c33
              clear c33
              have H' := As.mk H
              clear H
              go_wp2_with (first | ((with_reducible refine gate_builtin (b := .append) (xs := #[.tmp 48, .tmp 50]) rfl ?_); at_builtin; refine Kd.R_append (Kd.int .i64) (w0 := w) w.heap.size rfl (.tmp 48) (.tmp 50) 23 3 (.int .i64 0) 8 rfl Try.underlying23 info3 rfl (by decide) (by omega) u10 x10_2 x35_2 [.int .i64 x35_2] (fun k_ => some k_ ≠ (u11 : Value).ownBlock) (fun _ => False) rfl rfl ?aP (fun _ hk => hk.elim) ?aF ?aO ?aB ?aS ?aL ?_; (case aP => exact rfl); (case aB => exact (by repeat (first | (with_reducible first | exact HB.out | apply bal | apply bdN | apply bd1) | exact HB.out))); (case aF => exact (fun k_ hk => Kd.fresh' (Kd.R_lt (by (with_reducible repeat (first | apply Kd.Ral | apply Kd.RdN | apply Kd.Rdr)); exact HO_11.out)) k_ hk)); (case aO => exact (by (with_reducible repeat (first | apply Kd.Ral | apply Kd.RdN | apply Kd.Rdr)); exact HO_10.out)); (case aS => exact (below_size (by repeat (first | (with_reducible first | exact HB.out | apply bal | apply bdN | apply bd1) | exact HB.out)))); (case aL => have := LMc31.out; omega); intro v567 w34 ho hb hg hat; rw [← Ny566.out] at ho; have n0_ := As.mk (Kd.Q_over' (by (with_reducible repeat (first | apply Kd.Q_alloc | apply Kd.Q_drewN | apply Kd.Q_drew)); exact HO_9.out) (Kd.R_typed (by (with_reducible repeat (first | apply Kd.Ral | apply Kd.RdN | apply Kd.Rdr)); exact HO_10.out)) (by decide) hg); have n1_ := As.mk (Kd.R_after (ok := (fun _ => True)) (by (with_reducible repeat (first | apply Kd.Ral | apply Kd.RdN | apply Kd.Rdr)); exact Kd.R_mono HO_11.out (fun _ hk => ⟨trivial, hk⟩)) hg hat); have n2_ := As.mk (Kd.Q_over' (by (with_reducible repeat (first | apply Kd.Q_alloc | apply Kd.Q_drewN | apply Kd.Q_drew)); exact HO_33.out) (Kd.R_typed (by (with_reducible repeat (first | apply Kd.Ral | apply Kd.RdN | apply Kd.Rdr)); exact HO_10.out)) (by decide) hg); have n3_ := As.mk (hb); have n4_ := As.mk (ho); clear HO_9; clear HO_11; clear HO_33; clear HB; clear HO_10; have HO_9 := n0_; have HO_11 := n1_; have HO_33 := n2_; have HB := n3_; have HO568 := n4_; clear n0_ n1_ n2_ n3_ n4_; clear ho hb hg hat))
              go_roundg kj24
              case measure => have := HJ3.out; have := HK2.out; have := HJ24.out; omega
              case rel => exact ⟨(y566), (x11_2), (wrap64 (x35_2 + 1)), (by first | rfl | (simp; done) | (simp [*]; done)), H', ⟨by have := HJ3.out; have := HK2.out; have := HJ24.out; omega⟩, ⟨by (with_reducible repeat (first | apply Kd.Q_alloc | apply Kd.Q_drewN | apply Kd.Q_drew)); exact HO_9.out⟩, ⟨by (with_reducible repeat (first | apply Kd.Ral | apply Kd.RdN | apply Kd.Rdr)); exact HO568.out⟩, ⟨by (with_reducible repeat (first | apply Kd.Ral | apply Kd.RdN | apply Kd.Rdr)); exact Kd.R_mono HO_11.out (fun _ hk => hk.2)⟩, ⟨by (with_reducible repeat (first | apply Kd.Q_alloc | apply Kd.Q_drewN | apply Kd.Q_drew)); exact HO_33.out⟩, ⟨by repeat (first | (with_reducible first | exact HB.out | apply bal | apply bdN | apply bd1) | exact HB.out)⟩⟩
             ·rw [if_neg c33] at H
              have c33b0 : bX = false := by simpa using c33
              clear c33
              by_cases c35 : 0 ≤ x35_2
              ·rw [if_pos c35] at H
               have c35b0 : decide (0 ≤ x35_2) = true := decide_eq_true c35
               clear c35
               by_cases c36 : x35_2 < (t549.length : Int)
               ·rw [if_pos c36] at H
                have c36b0 : decide (x35_2 < (t549.length : Int)) = true := decide_eq_true c36
                clear c36
                obtain ⟨bq37, hbq37⟩ : ∃ b_ : Bool, b_ = (rdOf false t549 x35_2) := ⟨_, rfl⟩
                replace H : (if bq37 = true then (if x11_2.length < 17592186044416 then (iPC.l0 kj24 t549 y566 (x11_2 ++ [x35_2]) t561 (t561.length : Int) (wrap64 (x35_2 + 1))) else (none)) else (iPC.l0 kj24 t549 y566 x11_2 t561 (t561.length : Int) (wrap64 (x35_2 + 1)))) = some (r1, r2, r3) := by rw [← hbq37] at H; exact H
                have Nbq37 := As.mk hbq37
                clear hbq37
                by_cases c38 : bq37 = true
                ·subst c38
                 have H1 : (if x11_2.length < 17592186044416 then (iPC.l0 kj24 t549 y566 (x11_2 ++ [x35_2]) t561 (t561.length : Int) (wrap64 (x35_2 + 1))) else (none)) = some (r1, r2, r3) := by rw [if_pos rfl] at H; exact H
                 clear H
                 have H := H1
                 clear H1
                 by_cases c39 : x11_2.length < 17592186044416
                 ·rw [if_pos c39] at H
                  have LMc39 := As.mk c39
                  clear c39
                  obtain ⟨y570, hy570⟩ : ∃ y_ : List Int, y_ = (x11_2 ++ [x35_2]) := ⟨_, rfl⟩
                  replace H : (iPC.l0 kj24 t549 y566 y570 t561 (t561.length : Int) (wrap64 (x35_2 + 1))) = some (r1, r2, r3) := by first | (rw [hy570]; with_reducible exact H) | (have H2_ := (Option.bind_some _ _).symm.trans H; rw [hy570]; with_reducible exact H2_) | (have H2_ := (Option.bind_some _ _).symm.trans H; with_reducible exact H2_) | with_reducible exact H | (rw [hy570]; exact H) | exact H
                  have Ny570 := As.mk hy570
                  clear hy570
                  have H' := As.mk H
                  clear H
                  go_wp2_with (first | ((with_reducible refine gate_builtin (b := .append) (xs := #[.tmp 48, .tmp 50]) rfl ?_); at_builtin; refine Kd.R_append (Kd.int .i64) (w0 := w) w.heap.size rfl (.tmp 48) (.tmp 50) 23 3 (.int .i64 0) 8 rfl Try.underlying23 info3 rfl (by decide) (by omega) u10 x10_2 x35_2 [.int .i64 x35_2] (fun k_ => some k_ ≠ (u11 : Value).ownBlock) (fun _ => False) rfl rfl ?aP (fun _ hk => hk.elim) ?aF ?aO ?aB ?aS ?aL ?_; (case aP => exact rfl); (case aB => exact (by repeat (first | (with_reducible first | exact HB.out | apply bal | apply bdN | apply bd1) | exact HB.out))); (case aF => exact (fun k_ hk => Kd.fresh' (Kd.R_lt (by (with_reducible repeat (first | apply Kd.Ral | apply Kd.RdN | apply Kd.Rdr)); exact HO_11.out)) k_ hk)); (case aO => exact (by (with_reducible repeat (first | apply Kd.Ral | apply Kd.RdN | apply Kd.Rdr)); exact HO_10.out)); (case aS => exact (below_size (by repeat (first | (with_reducible first | exact HB.out | apply bal | apply bdN | apply bd1) | exact HB.out)))); (case aL => have := LMc31.out; omega); intro v567 w40 ho hb hg hat; rw [← Ny566.out] at ho; have n0_ := As.mk (Kd.Q_over' (by (with_reducible repeat (first | apply Kd.Q_alloc | apply Kd.Q_drewN | apply Kd.Q_drew)); exact HO_9.out) (Kd.R_typed (by (with_reducible repeat (first | apply Kd.Ral | apply Kd.RdN | apply Kd.Rdr)); exact HO_10.out)) (by decide) hg); have n1_ := As.mk (Kd.R_after (ok := (fun _ => True)) (by (with_reducible repeat (first | apply Kd.Ral | apply Kd.RdN | apply Kd.Rdr)); exact Kd.R_mono HO_11.out (fun _ hk => ⟨trivial, hk⟩)) hg hat); have n2_ := As.mk (Kd.Q_over' (by (with_reducible repeat (first | apply Kd.Q_alloc | apply Kd.Q_drewN | apply Kd.Q_drew)); exact HO_33.out) (Kd.R_typed (by (with_reducible repeat (first | apply Kd.Ral | apply Kd.RdN | apply Kd.Rdr)); exact HO_10.out)) (by decide) hg); have n3_ := As.mk (hb); have n4_ := As.mk (ho); clear HO_9; clear HO_11; clear HO_33; clear HB; clear HO_10; have HO_9 := n0_; have HO_11 := n1_; have HO_33 := n2_; have HB := n3_; have HO568 := n4_; clear n0_ n1_ n2_ n3_ n4_; clear ho hb hg hat; obtain ⟨Ao41, co41, eo41, _⟩ := Kd.Q_slice HO_9.out; subst eo41; have p569 : 0 ≤ (x35_2 : Int) := of_decide_eq_true (by first | (with_reducible assumption) | assumption); have q569 : x35_2 < (t549.length : Int) := of_decide_eq_true (by first | (with_reducible assumption) | assumption); obtain ⟨ad569, e569, hx569_0⟩ := Kd.at_bool (Kd.Q_reads' HO_9.out).2.2 x35_2 p569 q569; (try rw [← Nbq32.out] at hx569_0); (try rw [← Nbq37.out] at hx569_0); cases e569; replace p569 := eq_true p569; replace q569 := eq_true q569) | ((with_reducible refine gate_builtin (b := .append) (xs := #[.tmp 60, .tmp 62]) rfl ?_); at_builtin; refine Kd.R_append (Kd.int .i64) (w0 := w) w.heap.size rfl (.tmp 60) (.tmp 62) 23 3 (.int .i64 0) 8 rfl Try.underlying23 info3 rfl (by decide) (by omega) u11 x11_2 x35_2 [.int .i64 x35_2] (fun k_ => some k_ ≠ (v567 : Value).ownBlock) (fun _ => False) rfl rfl ?aP (fun _ hk => hk.elim) ?aF ?aO ?aB ?aS ?aL ?_; (case aP => exact rfl); (case aB => exact (by repeat (first | (with_reducible first | exact HB.out | apply bal | apply bdN | apply bd1) | exact HB.out))); (case aF => exact (fun k_ hk => Kd.fresh' (Kd.R_lt (by (with_reducible repeat (first | apply Kd.Ral | apply Kd.RdN | apply Kd.Rdr)); exact HO568.out)) k_ hk)); (case aO => exact (by (with_reducible repeat (first | apply Kd.Ral | apply Kd.RdN | apply Kd.Rdr)); exact Kd.R_mono HO_11.out (fun _ hk => hk.2))); (case aS => exact (below_size (by repeat (first | (with_reducible first | exact HB.out | apply bal | apply bdN | apply bd1) | exact HB.out)))); (case aL => have := LMc39.out; omega); intro v571 w42 ho hb hg hat; rw [← Ny570.out] at ho; have n0_ := As.mk (Kd.Q_over' (by (with_reducible repeat (first | apply Kd.Q_alloc | apply Kd.Q_drewN | apply Kd.Q_drew)); exact HO_9.out) (Kd.R_typed (by (with_reducible repeat (first | apply Kd.Ral | apply Kd.RdN | apply Kd.Rdr)); exact HO_11.out)) (by decide) hg); have n1_ := As.mk (Kd.Q_over' (by (with_reducible repeat (first | apply Kd.Q_alloc | apply Kd.Q_drewN | apply Kd.Q_drew)); exact HO_33.out) (Kd.R_typed (by (with_reducible repeat (first | apply Kd.Ral | apply Kd.RdN | apply Kd.Rdr)); exact HO_11.out)) (by decide) hg); have n2_ := As.mk (Kd.R_after (ok := (fun _ => True)) (by (with_reducible repeat (first | apply Kd.Ral | apply Kd.RdN | apply Kd.Rdr)); exact Kd.R_mono HO568.out (fun _ hk => ⟨trivial, hk⟩)) hg hat); have n3_ := As.mk (hb); have n4_ := As.mk (ho); clear HO_9; clear HO_33; clear HO568; clear HB; clear HO_11; have HO_9 := n0_; have HO_33 := n1_; have HO568 := n2_; have HB := n3_; have HO572 := n4_; clear n0_ n1_ n2_ n3_ n4_; clear ho hb hg hat))
                  go_roundg kj24
                  case measure => have := HJ3.out; have := HK2.out; have := HJ24.out; omega
                  case rel => exact ⟨(y566), (y570), (wrap64 (x35_2 + 1)), (by first | rfl | (simp; done) | (simp [*]; done)), H', ⟨by have := HJ3.out; have := HK2.out; have := HJ24.out; omega⟩, ⟨by (with_reducible repeat (first | apply Kd.Q_alloc | apply Kd.Q_drewN | apply Kd.Q_drew)); exact HO_9.out⟩, ⟨by (with_reducible repeat (first | apply Kd.Ral | apply Kd.RdN | apply Kd.Rdr)); exact Kd.R_mono HO568.out (fun _ hk => hk.2)⟩, ⟨by (with_reducible repeat (first | apply Kd.Ral | apply Kd.RdN | apply Kd.Rdr)); exact HO572.out⟩, ⟨by (with_reducible repeat (first | apply Kd.Q_alloc | apply Kd.Q_drewN | apply Kd.Q_drew)); exact HO_33.out⟩, ⟨by repeat (first | (with_reducible first | exact HB.out | apply bal | apply bdN | apply bd1) | exact HB.out)⟩⟩
                 ·rw [if_neg c39] at H
                  exact absurd H (by simp)
                ·replace c38 := Bool.eq_false_iff.mpr c38
                 subst c38
                 have H1 : (iPC.l0 kj24 t549 y566 x11_2 t561 (t561.length : Int) (wrap64 (x35_2 + 1))) = some (r1, r2, r3) := by rw [if_neg (show ¬ (false = true) by decide)] at H; exact H
                 clear H
                 have H := H1
                 clear H1
                 have H' := As.mk H
                 clear H
                 go_wp2_with (first | ((with_reducible refine gate_builtin (b := .append) (xs := #[.tmp 48, .tmp 50]) rfl ?_); at_builtin; refine Kd.R_append (Kd.int .i64) (w0 := w) w.heap.size rfl (.tmp 48) (.tmp 50) 23 3 (.int .i64 0) 8 rfl Try.underlying23 info3 rfl (by decide) (by omega) u10 x10_2 x35_2 [.int .i64 x35_2] (fun k_ => some k_ ≠ (u11 : Value).ownBlock) (fun _ => False) rfl rfl ?aP (fun _ hk => hk.elim) ?aF ?aO ?aB ?aS ?aL ?_; (case aP => exact rfl); (case aB => exact (by repeat (first | (with_reducible first | exact HB.out | apply bal | apply bdN | apply bd1) | exact HB.out))); (case aF => exact (fun k_ hk => Kd.fresh' (Kd.R_lt (by (with_reducible repeat (first | apply Kd.Ral | apply Kd.RdN | apply Kd.Rdr)); exact HO_11.out)) k_ hk)); (case aO => exact (by (with_reducible repeat (first | apply Kd.Ral | apply Kd.RdN | apply Kd.Rdr)); exact HO_10.out)); (case aS => exact (below_size (by repeat (first | (with_reducible first | exact HB.out | apply bal | apply bdN | apply bd1) | exact HB.out)))); (case aL => have := LMc31.out; omega); intro v567 w43 ho hb hg hat; rw [← Ny566.out] at ho; have n0_ := As.mk (Kd.Q_over' (by (with_reducible repeat (first | apply Kd.Q_alloc | apply Kd.Q_drewN | apply Kd.Q_drew)); exact HO_9.out) (Kd.R_typed (by (with_reducible repeat (first | apply Kd.Ral | apply Kd.RdN | apply Kd.Rdr)); exact HO_10.out)) (by decide) hg); have n1_ := As.mk (Kd.R_after (ok := (fun _ => True)) (by (with_reducible repeat (first | apply Kd.Ral | apply Kd.RdN | apply Kd.Rdr)); exact Kd.R_mono HO_11.out (fun _ hk => ⟨trivial, hk⟩)) hg hat); have n2_ := As.mk (Kd.Q_over' (by (with_reducible repeat (first | apply Kd.Q_alloc | apply Kd.Q_drewN | apply Kd.Q_drew)); exact HO_33.out) (Kd.R_typed (by (with_reducible repeat (first | apply Kd.Ral | apply Kd.RdN | apply Kd.Rdr)); exact HO_10.out)) (by decide) hg); have n3_ := As.mk (hb); have n4_ := As.mk (ho); clear HO_9; clear HO_11; clear HO_33; clear HB; clear HO_10; have HO_9 := n0_; have HO_11 := n1_; have HO_33 := n2_; have HB := n3_; have HO568 := n4_; clear n0_ n1_ n2_ n3_ n4_; clear ho hb hg hat; obtain ⟨Ao44, co44, eo44, _⟩ := Kd.Q_slice HO_9.out; subst eo44; have p569 : 0 ≤ (x35_2 : Int) := of_decide_eq_true (by first | (with_reducible assumption) | assumption); have q569 : x35_2 < (t549.length : Int) := of_decide_eq_true (by first | (with_reducible assumption) | assumption); obtain ⟨ad569, e569, hx569_0⟩ := Kd.at_bool (Kd.Q_reads' HO_9.out).2.2 x35_2 p569 q569; (try rw [← Nbq32.out] at hx569_0); (try rw [← Nbq37.out] at hx569_0); cases e569; replace p569 := eq_true p569; replace q569 := eq_true q569))
                 go_roundg kj24
                 case measure => have := HJ3.out; have := HK2.out; have := HJ24.out; omega
                 case rel => exact ⟨(y566), (x11_2), (wrap64 (x35_2 + 1)), (by first | rfl | (simp; done) | (simp [*]; done)), H', ⟨by have := HJ3.out; have := HK2.out; have := HJ24.out; omega⟩, ⟨by (with_reducible repeat (first | apply Kd.Q_alloc | apply Kd.Q_drewN | apply Kd.Q_drew)); exact HO_9.out⟩, ⟨by (with_reducible repeat (first | apply Kd.Ral | apply Kd.RdN | apply Kd.Rdr)); exact HO568.out⟩, ⟨by (with_reducible repeat (first | apply Kd.Ral | apply Kd.RdN | apply Kd.Rdr)); exact Kd.R_mono HO_11.out (fun _ hk => hk.2)⟩, ⟨by (with_reducible repeat (first | apply Kd.Q_alloc | apply Kd.Q_drewN | apply Kd.Q_drew)); exact HO_33.out⟩, ⟨by repeat (first | (with_reducible first | exact HB.out | apply bal | apply bdN | apply bd1) | exact HB.out)⟩⟩
               ·rw [if_neg c36] at H
                exact absurd H (by simp)
              ·rw [if_neg c35] at H
               exact absurd H (by simp)
            ·rw [if_neg c31] at H
             exact absurd H (by simp)
           ·replace c30 := Bool.eq_false_iff.mpr c30
            subst c30
            have H1 : (if (bX) = true then (iPC.l0 kj24 t549 x10_2 x11_2 t561 (t561.length : Int) (wrap64 (x35_2 + 1))) else (if 0 ≤ x35_2 then (if x35_2 < (t549.length : Int) then (if rdOf false t549 x35_2 = true then (if x11_2.length < 17592186044416 then (iPC.l0 kj24 t549 x10_2 (x11_2 ++ [x35_2]) t561 (t561.length : Int) (wrap64 (x35_2 + 1))) else (none)) else (iPC.l0 kj24 t549 x10_2 x11_2 t561 (t561.length : Int) (wrap64 (x35_2 + 1)))) else (none)) else (none))) = some (r1, r2, r3) := by rw [if_neg (show ¬ (false = true) by decide)] at H; exact H
            clear H
            have H := H1
            clear H1
            by_cases c46 : bX = true
            ·rw [if_pos c46] at H
             have c46b0 : bX = true := c46
             clear c46
             have H' := As.mk H
             clear H
             go_wp2
             go_roundg kj24
             case measure => have := HJ3.out; have := HK2.out; have := HJ24.out; omega
             case rel => exact ⟨(x10_2), (x11_2), (wrap64 (x35_2 + 1)), (by first | rfl | (simp; done) | (simp [*]; done)), H', ⟨by have := HJ3.out; have := HK2.out; have := HJ24.out; omega⟩, ⟨by (with_reducible repeat (first | apply Kd.Q_alloc | apply Kd.Q_drewN | apply Kd.Q_drew)); exact HO_9.out⟩, ⟨by (with_reducible repeat (first | apply Kd.Ral | apply Kd.RdN | apply Kd.Rdr)); exact HO_10.out⟩, ⟨by (with_reducible repeat (first | apply Kd.Ral | apply Kd.RdN | apply Kd.Rdr)); exact HO_11.out⟩, ⟨by (with_reducible repeat (first | apply Kd.Q_alloc | apply Kd.Q_drewN | apply Kd.Q_drew)); exact HO_33.out⟩, ⟨by repeat (first | (with_reducible first | exact HB.out | apply bal | apply bdN | apply bd1) | exact HB.out)⟩⟩
            ·rw [if_neg c46] at H
             have c46b0 : bX = false := by simpa using c46
             clear c46
             by_cases c47 : 0 ≤ x35_2
             ·rw [if_pos c47] at H
              have c47b0 : decide (0 ≤ x35_2) = true := decide_eq_true c47
              clear c47
              by_cases c48 : x35_2 < (t549.length : Int)
              ·rw [if_pos c48] at H
               have c48b0 : decide (x35_2 < (t549.length : Int)) = true := decide_eq_true c48
               clear c48
               obtain ⟨bq49, hbq49⟩ : ∃ b_ : Bool, b_ = (rdOf false t549 x35_2) := ⟨_, rfl⟩
               replace H : (if bq49 = true then (if x11_2.length < 17592186044416 then (iPC.l0 kj24 t549 x10_2 (x11_2 ++ [x35_2]) t561 (t561.length : Int) (wrap64 (x35_2 + 1))) else (none)) else (iPC.l0 kj24 t549 x10_2 x11_2 t561 (t561.length : Int) (wrap64 (x35_2 + 1)))) = some (r1, r2, r3) := by rw [← hbq49] at H; exact H
               have Nbq49 := As.mk hbq49
               clear hbq49
               by_cases c50 : bq49 = true
               ·subst c50
                have H1 : (if x11_2.length < 17592186044416 then (iPC.l0 kj24 t549 x10_2 (x11_2 ++ [x35_2]) t561 (t561.length : Int) (wrap64 (x35_2 + 1))) else (none)) = some (r1, r2, r3) := by rw [if_pos rfl] at H; exact H
                clear H
                have H := H1
                clear H1
                by_cases c51 : x11_2.length < 17592186044416
                ·rw [if_pos c51] at H
                 have LMc51 := As.mk c51
                 clear c51
                 obtain ⟨y574, hy574⟩ : ∃ y_ : List Int, y_ = (x11_2 ++ [x35_2]) := ⟨_, rfl⟩
                 replace H : (iPC.l0 kj24 t549 x10_2 y574 t561 (t561.length : Int) (wrap64 (x35_2 + 1))) = some (r1, r2, r3) := by first | (rw [hy574]; with_reducible exact H) | (have H2_ := (Option.bind_some _ _).symm.trans H; rw [hy574]; with_reducible exact H2_) | (have H2_ := (Option.bind_some _ _).symm.trans H; with_reducible exact H2_) | with_reducible exact H | (rw [hy574]; exact H) | exact H
                 have Ny574 := As.mk hy574
                 clear hy574
                 have H' := As.mk H
                 clear H
                 obtain ⟨Ao52, co52, eo52, _⟩ := Kd.Q_slice HO_9.out
                 subst eo52
                 have p573 : 0 ≤ (x35_2 : Int) := of_decide_eq_true (by first | (with_reducible assumption) | assumption)
                 have q573 : x35_2 < (t549.length : Int) := of_decide_eq_true (by first | (with_reducible assumption) | assumption)
                 obtain ⟨ad573, e573, hx573_0⟩ := Kd.at_bool (Kd.Q_reads' HO_9.out).2.2 x35_2 p573 q573
                 (try rw [← Nbq49.out] at hx573_0)
                 cases e573
                 replace p573 := eq_true p573
                 replace q573 := eq_true q573
                 go_wp2_with (first | ((with_reducible refine gate_builtin (b := .append) (xs := #[.tmp 60, .tmp 62]) rfl ?_); at_builtin; refine Kd.R_append (Kd.int .i64) (w0 := w) w.heap.size rfl (.tmp 60) (.tmp 62) 23 3 (.int .i64 0) 8 rfl Try.underlying23 info3 rfl (by decide) (by omega) u11 x11_2 x35_2 [.int .i64 x35_2] (fun k_ => some k_ ≠ (u10 : Value).ownBlock) (fun _ => False) rfl rfl ?aP (fun _ hk => hk.elim) ?aF ?aO ?aB ?aS ?aL ?_; (case aP => exact rfl); (case aB => exact (by repeat (first | (with_reducible first | exact HB.out | apply bal | apply bdN | apply bd1) | exact HB.out))); (case aF => exact (fun k_ hk => Kd.fresh' (Kd.R_lt (by (with_reducible repeat (first | apply Kd.Ral | apply Kd.RdN | apply Kd.Rdr)); exact HO_10.out)) k_ hk)); (case aO => exact (by (with_reducible repeat (first | apply Kd.Ral | apply Kd.RdN | apply Kd.Rdr)); exact HO_11.out)); (case aS => exact (below_size (by repeat (first | (with_reducible first | exact HB.out | apply bal | apply bdN | apply bd1) | exact HB.out)))); (case aL => have := LMc51.out; omega); intro v575 w53 ho hb hg hat; rw [← Ny574.out] at ho; have n0_ := As.mk (Kd.Q_over' (by (with_reducible repeat (first | apply Kd.Q_alloc | apply Kd.Q_drewN | apply Kd.Q_drew)); exact HO_9.out) (Kd.R_typed (by (with_reducible repeat (first | apply Kd.Ral | apply Kd.RdN | apply Kd.Rdr)); exact HO_11.out)) (by decide) hg); have n1_ := As.mk (Kd.R_after (ok := (fun _ => True)) (by (with_reducible repeat (first | apply Kd.Ral | apply Kd.RdN | apply Kd.Rdr)); exact Kd.R_mono HO_10.out (fun _ hk => ⟨trivial, hk⟩)) hg hat); have n2_ := As.mk (Kd.Q_over' (by (with_reducible repeat (first | apply Kd.Q_alloc | apply Kd.Q_drewN | apply Kd.Q_drew)); exact HO_33.out) (Kd.R_typed (by (with_reducible repeat (first | apply Kd.Ral | apply Kd.RdN | apply Kd.Rdr)); exact HO_11.out)) (by decide) hg); have n3_ := As.mk (hb); have n4_ := As.mk (ho); clear HO_9; clear HO_10; clear HO_33; clear HB; clear HO_11; have HO_9 := n0_; have HO_10 := n1_; have HO_33 := n2_; have HB := n3_; have HO576 := n4_; clear n0_ n1_ n2_ n3_ n4_; clear ho hb hg hat))
                 go_roundg kj24
                 case measure => have := HJ3.out; have := HK2.out; have := HJ24.out; omega
                 case rel => exact ⟨(x10_2), (y574), (wrap64 (x35_2 + 1)), (by first | rfl | (simp; done) | (simp [*]; done)), H', ⟨by have := HJ3.out; have := HK2.out; have := HJ24.out; omega⟩, ⟨by (with_reducible repeat (first | apply Kd.Q_alloc | apply Kd.Q_drewN | apply Kd.Q_drew)); exact HO_9.out⟩, ⟨by (with_reducible repeat (first | apply Kd.Ral | apply Kd.RdN | apply Kd.Rdr)); exact Kd.R_mono HO_10.out (fun _ hk => hk.2)⟩, ⟨by (with_reducible repeat (first | apply Kd.Ral | apply Kd.RdN | apply Kd.Rdr)); exact HO576.out⟩, ⟨by (with_reducible repeat (first | apply Kd.Q_alloc | apply Kd.Q_drewN | apply Kd.Q_drew)); exact HO_33.out⟩, ⟨by repeat (first | (with_reducible first | exact HB.out | apply bal | apply bdN | apply bd1) | exact HB.out)⟩⟩
                ·rw [if_neg c51] at H
                 exact absurd H (by simp)
               ·replace c50 := Bool.eq_false_iff.mpr c50
                subst c50
                have H1 : (iPC.l0 kj24 t549 x10_2 x11_2 t561 (t561.length : Int) (wrap64 (x35_2 + 1))) = some (r1, r2, r3) := by rw [if_neg (show ¬ (false = true) by decide)] at H; exact H
                clear H
                have H := H1
                clear H1
                have H' := As.mk H
                clear H
                obtain ⟨Ao54, co54, eo54, _⟩ := Kd.Q_slice HO_9.out
                subst eo54
                have p573 : 0 ≤ (x35_2 : Int) := of_decide_eq_true (by first | (with_reducible assumption) | assumption)
                have q573 : x35_2 < (t549.length : Int) := of_decide_eq_true (by first | (with_reducible assumption) | assumption)
                obtain ⟨ad573, e573, hx573_0⟩ := Kd.at_bool (Kd.Q_reads' HO_9.out).2.2 x35_2 p573 q573
                (try rw [← Nbq49.out] at hx573_0)
                cases e573
                replace p573 := eq_true p573
                replace q573 := eq_true q573
                go_wp2
                go_roundg kj24
                case measure => have := HJ3.out; have := HK2.out; have := HJ24.out; omega
                case rel => exact ⟨(x10_2), (x11_2), (wrap64 (x35_2 + 1)), (by first | rfl | (simp; done) | (simp [*]; done)), H', ⟨by have := HJ3.out; have := HK2.out; have := HJ24.out; omega⟩, ⟨by (with_reducible repeat (first | apply Kd.Q_alloc | apply Kd.Q_drewN | apply Kd.Q_drew)); exact HO_9.out⟩, ⟨by (with_reducible repeat (first | apply Kd.Ral | apply Kd.RdN | apply Kd.Rdr)); exact HO_10.out⟩, ⟨by (with_reducible repeat (first | apply Kd.Ral | apply Kd.RdN | apply Kd.Rdr)); exact HO_11.out⟩, ⟨by (with_reducible repeat (first | apply Kd.Q_alloc | apply Kd.Q_drewN | apply Kd.Q_drew)); exact HO_33.out⟩, ⟨by repeat (first | (with_reducible first | exact HB.out | apply bal | apply bdN | apply bd1) | exact HB.out)⟩⟩
              ·rw [if_neg c48] at H
               exact absurd H (by simp)
             ·rw [if_neg c47] at H
              exact absurd H (by simp)
        ·rw [if_neg c24] at H
         exact absurd H (by simp)
       ·rw [if_neg c23] at H
        exact absurd H (by simp)
      ·rw [if_neg c22] at H
       have c22b0 : decide (x35_2 < (t561.length : Int)) = false := decide_eq_false c22
       clear c22
       simp only [Option.some.injEq, Prod.mk.injEq] at H
       obtain ⟨rfl, rfl, rfl⟩ := H
       go_wp2
       go_ret3
       exact ⟨_, _, by first | rfl | (simp [errW_none, errW_some] <;> rfl) | (simp [*, errW_none, errW_some] <;> rfl), by (with_reducible repeat (first | apply Kd.Ral | apply Kd.RdN | apply Kd.Rdr)); exact HO_10.out, by (with_reducible repeat (first | apply Kd.Ral | apply Kd.RdN | apply Kd.Rdr)); exact HO_11.out, by repeat (first | (with_reducible first | exact HB.out | apply bal | apply bdN | apply bd1) | exact HB.out)⟩
end Go.Proofs.Ytclpjlaielphfaa.PF
end
