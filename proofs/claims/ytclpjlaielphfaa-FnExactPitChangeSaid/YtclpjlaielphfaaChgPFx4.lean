/- Used by the claim's last text. -/
import Derived.Test.YtclpjlaielphfaaChgPFx0
import Derived.Test.YtclpjlaielphfaaChgPFx1
import Derived.Test.YtclpjlaielphfaaChgPFx2
import Derived.Test.YtclpjlaielphfaaChgPit
section
namespace Go.Proofs.Ytclpjlaielphfaa.PF
open Go.RowKit Go.Proofs.YtclpjlaielphfaaW.PrintWords Go.Proofs.YtclpjlaielphfaaW.PrintLast Go.Proofs.YtclpjlaielphfaaW.PrintMore
attribute [local go_sem] max2_int min2_int max_two min_two max_three min_three max_four min_four
set_option linter.unusedVariables false
set_option linter.unusedSimpArgs false
mutual
def spec_paEdges.l0 : Nat → List (List Int) → List Int → List (S170) → List (List Int) → Int → Int → Option ((List (S170)))
 | 0, _, _, _, _, _, _ => none
 | k + 1, x0, x1, x5, x11, x12, x13 => if x13 < x12 then (if 0 ≤ x13 then (if x13 < (x11.length : Int) then (if x13 < (x1.length : Int) then (if (rd x1 x13) > 0 then (if x5.length < 5864062014805 then (spec_paEdges.j1 k x0 x1 (x5 ++ [(⟨0, wrap64 (x13 + 1), rd x1 x13⟩ : S170)]) x13 (rd_L1 x11 x13) x11 x12 x13) else (none)) else (if (rd x1 x13) < 0 then (if x5.length < 5864062014805 then (spec_paEdges.j1 k x0 x1 (x5 ++ [(⟨wrap64 (x13 + 1), wrap64 ((x0.length : Int) + 1), wrap64 (-(rd x1 x13))⟩ : S170)]) x13 (rd_L1 x11 x13) x11 x12 x13) else (none)) else (spec_paEdges.j1 k x0 x1 x5 x13 (rd_L1 x11 x13) x11 x12 x13))) else (none)) else (none)) else (none)) else (some x5)
def spec_paEdges.j1 : Nat → List (List Int) → List Int → List (S170) → Int → List Int → List (List Int) → Int → Int → Option ((List (S170)))
 | 0, _, _, _, _, _, _, _, _ => none
 | k + 1, x0, x1, x5, x6, x7, x11, x12, x13 => spec_paEdges.l1 k x0 x1 x5 x6 x11 x12 x13 x7 (x7.length : Int) 0
def spec_paEdges.l1 : Nat → List (List Int) → List Int → List (S170) → Int → List (List Int) → Int → Int → List Int → Int → Int → Option ((List (S170)))
 | 0, _, _, _, _, _, _, _, _, _, _ => none
 | k + 1, x0, x1, x5, x6, x11, x12, x13, x46, x47, x48 => if x48 < x47 then (if 0 ≤ x48 then (if x48 < (x46.length : Int) then (if x5.length < 5864062014805 then (spec_paEdges.l1 k x0 x1 (x5 ++ [(⟨wrap64 (x6 + 1), wrap64 ((rd x46 x48) + 1), 1000000000⟩ : S170)]) x6 x11 x12 x13 x46 x47 (wrap64 (x48 + 1))) else (none)) else (none)) else (none)) else (spec_paEdges.l0 k x0 x1 x5 x11 x12 (wrap64 (x13 + 1)))
end
def spec_paEdges.f (k : Nat) (l0 : List (List Int)) (l1 : List Int) : Option ((List (S170))) := spec_paEdges.l0 k l0 l1 ([] : List (S170)) l0 (l0.length : Int) 0
theorem spec_paEdges.mono_l : ∀ k, (∀ y0 y1 y2 y3 y4 y5, LeO (spec_paEdges.l0 k y0 y1 y2 y3 y4 y5) (spec_paEdges.l0 (k + 1) y0 y1 y2 y3 y4 y5)) ∧ (∀ y0 y1 y2 y3 y4 y5 y6 y7, LeO (spec_paEdges.j1 k y0 y1 y2 y3 y4 y5 y6 y7) (spec_paEdges.j1 (k + 1) y0 y1 y2 y3 y4 y5 y6 y7)) ∧ (∀ y0 y1 y2 y3 y4 y5 y6 y7 y8 y9, LeO (spec_paEdges.l1 k y0 y1 y2 y3 y4 y5 y6 y7 y8 y9) (spec_paEdges.l1 (k + 1) y0 y1 y2 y3 y4 y5 y6 y7 y8 y9))
 | 0 => ⟨fun _ _ _ _ _ _ r h => by simp [spec_paEdges.l0] at h, fun _ _ _ _ _ _ _ _ r h => by simp [spec_paEdges.j1] at h, fun _ _ _ _ _ _ _ _ _ _ r h => by simp [spec_paEdges.l1] at h⟩
 | k + 1 => by
  obtain ⟨ih0, ih1, ih2⟩ := spec_paEdges.mono_l k
  refine ⟨?_, ?_, ?_⟩
  ·intro y0 y1 y2 y3 y4 y5
   unfold spec_paEdges.l0
   repeat' first
   | (with_reducible exact ih0 _ _ _ _ _ _)
   | (with_reducible exact ih1 _ _ _ _ _ _ _ _)
   | (with_reducible exact ih2 _ _ _ _ _ _ _ _ _ _)
   | (with_reducible exact LeO.refl _)
   | (with_reducible exact LeO.none _)
   | (with_reducible refine LeO.ite ?_ ?_)
   | (with_reducible refine LeO.bind ?_ (fun _ => ?_))
   | exact ih0 _ _ _ _ _ _
   | exact ih1 _ _ _ _ _ _ _ _
   | exact ih2 _ _ _ _ _ _ _ _ _ _
   | exact LeO.none _
   | refine LeO.ite ?_ ?_
   | refine LeO.bind ?_ (fun _ => ?_)
  ·intro y0 y1 y2 y3 y4 y5 y6 y7
   unfold spec_paEdges.j1
   repeat' first
   | (with_reducible exact ih0 _ _ _ _ _ _)
   | (with_reducible exact ih1 _ _ _ _ _ _ _ _)
   | (with_reducible exact ih2 _ _ _ _ _ _ _ _ _ _)
   | (with_reducible exact LeO.refl _)
   | (with_reducible exact LeO.none _)
   | (with_reducible refine LeO.ite ?_ ?_)
   | (with_reducible refine LeO.bind ?_ (fun _ => ?_))
   | exact ih0 _ _ _ _ _ _
   | exact ih1 _ _ _ _ _ _ _ _
   | exact ih2 _ _ _ _ _ _ _ _ _ _
   | exact LeO.none _
   | refine LeO.ite ?_ ?_
   | refine LeO.bind ?_ (fun _ => ?_)
  ·intro y0 y1 y2 y3 y4 y5 y6 y7 y8 y9
   unfold spec_paEdges.l1
   repeat' first
   | (with_reducible exact ih0 _ _ _ _ _ _)
   | (with_reducible exact ih1 _ _ _ _ _ _ _ _)
   | (with_reducible exact ih2 _ _ _ _ _ _ _ _ _ _)
   | (with_reducible exact LeO.refl _)
   | (with_reducible exact LeO.none _)
   | (with_reducible refine LeO.ite ?_ ?_)
   | (with_reducible refine LeO.bind ?_ (fun _ => ?_))
   | exact ih0 _ _ _ _ _ _
   | exact ih1 _ _ _ _ _ _ _ _
   | exact ih2 _ _ _ _ _ _ _ _ _ _
   | exact LeO.none _
   | refine LeO.ite ?_ ?_
   | refine LeO.bind ?_ (fun _ => ?_)
theorem spec_paEdges.mono : ∀ a0 a1 k, LeO (spec_paEdges.f k a0 a1) (spec_paEdges.f (k + 1) a0 a1) := by
 intro a0 a1 k
 obtain ⟨ih0, ih1, ih2⟩ := spec_paEdges.mono_l k
 unfold spec_paEdges.f
 repeat' first
   | (with_reducible exact ih0 _ _ _ _ _ _)
   | (with_reducible exact ih1 _ _ _ _ _ _ _ _)
   | (with_reducible exact ih2 _ _ _ _ _ _ _ _ _ _)
   | (with_reducible exact LeO.refl _)
   | (with_reducible exact LeO.none _)
   | (with_reducible refine LeO.ite ?_ ?_)
   | (with_reducible refine LeO.bind ?_ (fun _ => ?_))
   | exact ih0 _ _ _ _ _ _
   | exact ih1 _ _ _ _ _ _ _ _
   | exact ih2 _ _ _ _ _ _ _ _ _ _
   | exact LeO.none _
   | refine LeO.ite ?_ ?_
   | refine LeO.bind ?_ (fun _ => ?_)
set_option maxHeartbeats 8000000 in
set_option maxRecDepth 100000 in
theorem spec_paEdges.calls (k : Nat) (A0 : Option Addr) (c0 : Nat) (l0 : List (List Int)) (A1 : Option Addr) (c1 : Nat) (l1 : List Int) (r : List (S170)) (w : World) (hr0 : Kd.C (Kd.slice 3 (Kd.int .i64)) w A0 l0.length l0) (hc0 : l0.length ≤ c0) (hr1 : Kd.C (Kd.int .i64) w A1 l1.length l1) (hc1 : l1.length ≤ c1) (h : spec_paEdges.f k l0 l1 = some r) :
  Calls Try.prog 140 #[.slice A0 l0.length c0, .slice A1 l1.length c1] w fun e w' => ∃ v0_ : Value, e = .returned (v0_) ∧ Kd.R k170 170 w' w.heap.size (fun _ => True) v0_ r ∧ Below w.heap.size w w' := by
 have hu170 := Try.underlying170
 have HR0 := As.mk hr0
 have HC0 := As.mk hc0
 clear hr0 hc0
 have HR1 := As.mk hr1
 have HC1 := As.mk hc1
 clear hr1 hc1
 have HB := As.mk (Below.refl w.heap.size w)
 have H : (spec_paEdges.l0 k l0 l1 ([] : List (S170)) l0 (l0.length : Int) 0) = some r := h
 clear h
 have H' := As.mk H
 clear H
 go_enter Try.func140, Try.ntmps140
 go_wp2
 go_loopg [5, 13] k (fun kq v5 v13 w' => ∃ (x5_1 : List (S170)) (x13_1 : Int), v13 = .int .i64 x13_1 ∧ As (spec_paEdges.l0 kq l0 l1 x5_1 l0 (l0.length : Int) x13_1 = some r) ∧ As (kq ≤ k) ∧ As (Kd.R k170 170 w' w.heap.size (fun _ => True) v5 x5_1) ∧ As (Below w.heap.size w w'))
 case atStart => exact ⟨(([] : List (S170))), (0), (by first | rfl | (simp; done) | (simp [*]; done)), H', ⟨Nat.le_refl _⟩, ⟨by first | exact Kd.R_nil _ _ _ _ _ | exact Kd.N_nil _ _ _ _ _ | exact Kd.V_nil _ _ _ _ _ | exact Kd.Q_nil _ _ _ _ _ | exact Kd.S_nil _ _ _ _ _⟩, ⟨by repeat (first | (with_reducible first | exact HB.out | apply bal | apply bdN | apply bd1) | exact HB.out)⟩⟩
 case round =>
  clear H'
  try clear c1
  try clear p2
  obtain ⟨x5_1, x13_1, rfl, HA, HK1, HO_5, HB⟩ := hrel
  cases gk with
  | zero => exact absurd HA.out (by simp [spec_paEdges.l0])
  | succ k1 =>
   have H := HA.out
   clear HA
   simp only [spec_paEdges.l0] at H
   by_cases c3 : x13_1 < (l0.length : Int)
   ·rw [if_pos c3] at H
    have c3b0 : decide (x13_1 < (l0.length : Int)) = true := decide_eq_true c3
    clear c3
    by_cases c4 : 0 ≤ x13_1
    ·rw [if_pos c4] at H
     have c4b0 : decide (0 ≤ x13_1) = true := decide_eq_true c4
     clear c4
     by_cases c5 : x13_1 < (l0.length : Int)
     ·rw [if_pos c5] at H
      have c5b0 : decide (x13_1 < (l0.length : Int)) = true := decide_eq_true c5
      clear c5
      by_cases c6 : x13_1 < (l1.length : Int)
      ·rw [if_pos c6] at H
       have c6b0 : decide (x13_1 < (l1.length : Int)) = true := decide_eq_true c6
       clear c6
       have HC7 := As.mk H
       clear H
       have p130 : 0 ≤ (x13_1 : Int) := of_decide_eq_true (by first | (with_reducible assumption) | assumption)
       have q130 : x13_1 < (l0.length : Int) := of_decide_eq_true (by first | (with_reducible assumption) | assumption)
       obtain ⟨ad130, A130_0, c130_0, e130, hx130_0, hl130_0, hi130_0⟩ := at_L1 HR0.out x13_1 p130 q130
       cases e130
       replace hx130_0 := (HB.out.cell (World.block_lt_of_cell? w _ hx130_0)).trans hx130_0
       have HR130_0 := As.mk hi130_0
       have HC130_0 := As.mk hl130_0
       clear hi130_0 hl130_0
       replace p130 := eq_true p130
       replace q130 := eq_true q130
       have p131 : 0 ≤ (x13_1 : Int) := of_decide_eq_true (by first | (with_reducible assumption) | assumption)
       have q131 : x13_1 < (l1.length : Int) := of_decide_eq_true (by first | (with_reducible assumption) | assumption)
       obtain ⟨ad131, e131, hx131_0⟩ := Kd.at_int HR1.out x13_1 p131 q131
       cases e131
       replace hx131_0 := (HB.out.cell (World.block_lt_of_cell? w _ hx131_0)).trans hx131_0
       replace p131 := eq_true p131
       replace q131 := eq_true q131
       go_upto_block 2 with (fail)
       go_cut [5] (fun v5 wc => ∃ (kq : Nat) (x5_6 : List (S170)), As (spec_paEdges.j1 kq l0 l1 x5_6 x13_1 (rd_L1 l0 x13_1) l0 (l0.length : Int) x13_1 = some r) ∧ As (kq ≤ k1) ∧ As (Kd.R k170 170 wc w.heap.size (fun _ => True) v5 x5_6) ∧ As (Below w.heap.size w wc))
       case first =>
        have H := HC7.out
        clear HC7
        by_cases c8 : (rd l1 x13_1) > 0
        ·rw [if_pos c8] at H
         have c8b0 : decide (0 < (rd l1 x13_1)) = true := decide_eq_true c8
         clear c8
         (first | rw [c8b0] | (simp only [i64_w, i32_w]; rw [c8b0]) | skip)
         by_cases c9 : x5_1.length < 5864062014805
         ·rw [if_pos c9] at H
          have LMc9 := As.mk c9
          clear c9
          obtain ⟨y132, hy132⟩ : ∃ y_ : List (S170), y_ = (x5_1 ++ [(⟨0, wrap64 (x13_1 + 1), rd l1 x13_1⟩ : S170)]) := ⟨_, rfl⟩
          replace H : (spec_paEdges.j1 k1 l0 l1 y132 x13_1 (rd_L1 l0 x13_1) l0 (l0.length : Int) x13_1) = some r := by first | (rw [hy132]; with_reducible exact H) | (have H2_ := (Option.bind_some _ _).symm.trans H; rw [hy132]; with_reducible exact H2_) | (have H2_ := (Option.bind_some _ _).symm.trans H; with_reducible exact H2_) | with_reducible exact H | (rw [hy132]; exact H) | exact H
          have Ny132 := As.mk hy132
          clear hy132
          have H' := As.mk H
          clear H
          go_wp2_with (first | ((with_reducible refine gate_builtin (b := .append) (xs := #[.tmp 25, .tmp 30]) rfl ?_); at_builtin; refine Kd.R_append k170 (w0 := w) w.heap.size rfl (.tmp 25) (.tmp 30) 155 170 (.agg #[(.int .i64 0), (.int .i64 0), (.int .i64 0)]) 24 rfl Try.underlying155 info170 rfl (by decide) (by omega) u5 x5_1 (⟨0, wrap64 (x13_1 + 1), rd l1 x13_1⟩ : S170) [.int .i64 0, .int .i64 (wrap64 (x13_1 + 1)), .int .i64 (rd l1 x13_1)] (fun _ => True) (fun _ => False) rfl rfl ?aP (fun _ hk => hk.elim) ?aF ?aO ?aB ?aS ?aL ?_; (case aP => exact k170_mkM _ _ _ (⟨0, wrap64 (x13_1 + 1), rd l1 x13_1⟩ : S170)); (case aB => exact (by repeat (first | (with_reducible first | exact HB.out | apply bal | apply bdN | apply bd1) | exact HB.out))); (case aF => exact (fun _ _ => trivial)); (case aO => exact (by (with_reducible repeat (first | apply Kd.Ral | apply Kd.RdN | apply Kd.Rdr)); exact HO_5.out)); (case aS => exact (below_size (by repeat (first | (with_reducible first | exact HB.out | apply bal | apply bdN | apply bd1) | exact HB.out)))); (case aL => have := LMc9.out; omega); intro v133 w10 ho hb hg hat; rw [← Ny132.out] at ho; have n0_ := As.mk (hb); have n1_ := As.mk (ho); clear HB; clear HO_5; have HB := n0_; have HO134 := n1_; clear n0_ n1_; clear ho hb hg hat))
          go_meet
          case rel => exact ⟨_, (y132), H', ⟨by have := HK1.out; first | omega | exact Nat.le_refl _⟩, ⟨by (with_reducible repeat (first | apply Kd.Ral | apply Kd.RdN | apply Kd.Rdr)); exact HO134.out⟩, ⟨by repeat (first | (with_reducible first | exact HB.out | apply bal | apply bdN | apply bd1) | exact HB.out)⟩⟩
         ·rw [if_neg c9] at H
          exact absurd H (by simp)
        ·rw [if_neg c8] at H
         have c8b0 : decide (0 < (rd l1 x13_1)) = false := decide_eq_false c8
         clear c8
         (first | rw [c8b0] | (simp only [i64_w, i32_w]; rw [c8b0]) | skip)
         by_cases c11 : (rd l1 x13_1) < 0
         ·rw [if_pos c11] at H
          have c11b0 : decide ((rd l1 x13_1) < 0) = true := decide_eq_true c11
          clear c11
          by_cases c12 : x5_1.length < 5864062014805
          ·rw [if_pos c12] at H
           have LMc12 := As.mk c12
           clear c12
           obtain ⟨y135, hy135⟩ : ∃ y_ : List (S170), y_ = (x5_1 ++ [(⟨wrap64 (x13_1 + 1), wrap64 ((l0.length : Int) + 1), wrap64 (-(rd l1 x13_1))⟩ : S170)]) := ⟨_, rfl⟩
           replace H : (spec_paEdges.j1 k1 l0 l1 y135 x13_1 (rd_L1 l0 x13_1) l0 (l0.length : Int) x13_1) = some r := by first | (rw [hy135]; with_reducible exact H) | (have H2_ := (Option.bind_some _ _).symm.trans H; rw [hy135]; with_reducible exact H2_) | (have H2_ := (Option.bind_some _ _).symm.trans H; with_reducible exact H2_) | with_reducible exact H | (rw [hy135]; exact H) | exact H
           have Ny135 := As.mk hy135
           clear hy135
           have H' := As.mk H
           clear H
           go_wp2_with (first | ((with_reducible refine gate_builtin (b := .append) (xs := #[.tmp 35, .tmp 44]) rfl ?_); at_builtin; refine Kd.R_append k170 (w0 := w) w.heap.size rfl (.tmp 35) (.tmp 44) 155 170 (.agg #[(.int .i64 0), (.int .i64 0), (.int .i64 0)]) 24 rfl Try.underlying155 info170 rfl (by decide) (by omega) u5 x5_1 (⟨wrap64 (x13_1 + 1), wrap64 ((l0.length : Int) + 1), wrap64 (-(rd l1 x13_1))⟩ : S170) [.int .i64 (wrap64 (x13_1 + 1)), .int .i64 (wrap64 ((l0.length : Int) + 1)), .int .i64 (wrap64 (-(rd l1 x13_1)))] (fun _ => True) (fun _ => False) rfl rfl ?aP (fun _ hk => hk.elim) ?aF ?aO ?aB ?aS ?aL ?_; (case aP => exact k170_mkM _ _ _ (⟨wrap64 (x13_1 + 1), wrap64 ((l0.length : Int) + 1), wrap64 (-(rd l1 x13_1))⟩ : S170)); (case aB => exact (by repeat (first | (with_reducible first | exact HB.out | apply bal | apply bdN | apply bd1) | exact HB.out))); (case aF => exact (fun _ _ => trivial)); (case aO => exact (by (with_reducible repeat (first | apply Kd.Ral | apply Kd.RdN | apply Kd.Rdr)); exact HO_5.out)); (case aS => exact (below_size (by repeat (first | (with_reducible first | exact HB.out | apply bal | apply bdN | apply bd1) | exact HB.out)))); (case aL => have := LMc12.out; omega); intro v136 w13 ho hb hg hat; rw [← Ny135.out] at ho; have n0_ := As.mk (hb); have n1_ := As.mk (ho); clear HB; clear HO_5; have HB := n0_; have HO137 := n1_; clear n0_ n1_; clear ho hb hg hat))
           go_meet
           case rel => exact ⟨_, (y135), H', ⟨by have := HK1.out; first | omega | exact Nat.le_refl _⟩, ⟨by (with_reducible repeat (first | apply Kd.Ral | apply Kd.RdN | apply Kd.Rdr)); exact HO137.out⟩, ⟨by repeat (first | (with_reducible first | exact HB.out | apply bal | apply bdN | apply bd1) | exact HB.out)⟩⟩
          ·rw [if_neg c12] at H
           exact absurd H (by simp)
         ·rw [if_neg c11] at H
          have c11b0 : decide ((rd l1 x13_1) < 0) = false := decide_eq_false c11
          clear c11
          have H' := As.mk H
          clear H
          go_wp2
          go_meet
          case rel => exact ⟨_, (x5_1), H', ⟨by have := HK1.out; first | omega | exact Nat.le_refl _⟩, ⟨by (with_reducible repeat (first | apply Kd.Ral | apply Kd.RdN | apply Kd.Rdr)); exact HO_5.out⟩, ⟨by repeat (first | (with_reducible first | exact HB.out | apply bal | apply bdN | apply bd1) | exact HB.out)⟩⟩
       case rest =>
        clear HC7
        try clear c1
        try clear p1
        try clear q1
        try clear hx1
        try clear p2
        try clear c3
        try clear c3b0
        try clear c4
        try clear c4b0
        try clear c5
        try clear c5b0
        try clear c6
        try clear c6b0
        try clear p6
        try clear c8
        try clear c8b0
        try clear c9
        try clear c11
        try clear c11b0
        try clear c12
        try clear c13
        try clear p13
        try clear q13
        try clear hx13
        try clear hx130_0
        try clear hx131_0
        try clear p130
        try clear p131
        try clear p2
        try clear q130
        try clear q131
        obtain ⟨kq, x5_6, HA, HJ6, HO_5, HB⟩ := hcut
        cases kq with
        | zero => exact absurd HA.out (by simp [spec_paEdges.j1])
        | succ kj6 =>
         have H := HA.out
         clear HA
         simp only [spec_paEdges.j1] at H
         have H' := As.mk H
         clear H
         go_wp2
         go_loopg [5, 48] kj6 (fun kq v5 v48 w' => ∃ (x5_3 : List (S170)) (x48_3 : Int), v48 = .int .i64 x48_3 ∧ As (spec_paEdges.l1 kq l0 l1 x5_3 x13_1 l0 (l0.length : Int) x13_1 (rd_L1 l0 x13_1) ((rd_L1 l0 x13_1).length : Int) x48_3 = some r) ∧ As (kq ≤ kj6) ∧ As (Kd.R k170 170 w' w.heap.size (fun _ => True) v5 x5_3) ∧ As (Below w.heap.size w w'))
         case atStart => exact ⟨(x5_6), (0), (by first | rfl | (simp; done) | (simp [*]; done)), H', ⟨Nat.le_refl _⟩, ⟨by (with_reducible repeat (first | apply Kd.Ral | apply Kd.RdN | apply Kd.Rdr)); exact HO_5.out⟩, ⟨by repeat (first | (with_reducible first | exact HB.out | apply bal | apply bdN | apply bd1) | exact HB.out)⟩⟩
         case round =>
          clear H'
          try clear c1
          try clear p1
          try clear q1
          try clear hx1
          try clear p2
          try clear c3
          try clear c3b0
          try clear c4
          try clear c4b0
          try clear c5
          try clear c5b0
          try clear c6
          try clear c6b0
          try clear p6
          try clear c8
          try clear c8b0
          try clear c9
          try clear c11
          try clear c11b0
          try clear c12
          try clear c13
          try clear p13
          try clear q13
          try clear hx13
          try clear hx130_0
          try clear hx131_0
          try clear p1
          try clear p13
          try clear p130
          try clear p131
          try clear p2
          try clear p6
          try clear q1
          try clear q13
          try clear q130
          try clear q131
          obtain ⟨x5_3, x48_3, rfl, HA, HK3, HO_5, HB⟩ := hrel
          cases gk with
          | zero => exact absurd HA.out (by simp [spec_paEdges.l1])
          | succ k3 =>
           have H := HA.out
           clear HA
           simp only [spec_paEdges.l1] at H
           by_cases c14 : x48_3 < ((rd_L1 l0 x13_1).length : Int)
           ·rw [if_pos c14] at H
            have c14b0 : decide (x48_3 < ((rd_L1 l0 x13_1).length : Int)) = true := decide_eq_true c14
            clear c14
            by_cases c15 : 0 ≤ x48_3
            ·rw [if_pos c15] at H
             have c15b0 : decide (0 ≤ x48_3) = true := decide_eq_true c15
             clear c15
             by_cases c16 : x48_3 < ((rd_L1 l0 x13_1).length : Int)
             ·rw [if_pos c16] at H
              have c16b0 : decide (x48_3 < ((rd_L1 l0 x13_1).length : Int)) = true := decide_eq_true c16
              clear c16
              by_cases c17 : x5_3.length < 5864062014805
              ·rw [if_pos c17] at H
               have LMc17 := As.mk c17
               clear c17
               obtain ⟨y139, hy139⟩ : ∃ y_ : List (S170), y_ = (x5_3 ++ [(⟨wrap64 (x13_1 + 1), wrap64 ((rd (rd_L1 l0 x13_1) x48_3) + 1), 1000000000⟩ : S170)]) := ⟨_, rfl⟩
               replace H : (spec_paEdges.l1 k3 l0 l1 y139 x13_1 l0 (l0.length : Int) x13_1 (rd_L1 l0 x13_1) ((rd_L1 l0 x13_1).length : Int) (wrap64 (x48_3 + 1))) = some r := by first | (rw [hy139]; with_reducible exact H) | (have H2_ := (Option.bind_some _ _).symm.trans H; rw [hy139]; with_reducible exact H2_) | (have H2_ := (Option.bind_some _ _).symm.trans H; with_reducible exact H2_) | with_reducible exact H | (rw [hy139]; exact H) | exact H
               have Ny139 := As.mk hy139
               clear hy139
               have H' := As.mk H
               clear H
               have p138 : 0 ≤ (x48_3 : Int) := of_decide_eq_true (by first | (with_reducible assumption) | assumption)
               have q138 : x48_3 < ((rd_L1 l0 x13_1).length : Int) := of_decide_eq_true (by first | (with_reducible assumption) | assumption)
               obtain ⟨ad138, e138, hx138_0⟩ := Kd.at_int HR130_0.out x48_3 p138 q138
               cases e138
               replace hx138_0 := (HB.out.cell (World.block_lt_of_cell? w _ hx138_0)).trans hx138_0
               replace p138 := eq_true p138
               replace q138 := eq_true q138
               go_wp2_with (first | ((with_reducible refine gate_builtin (b := .append) (xs := #[.tmp 52, .tmp 58]) rfl ?_); at_builtin; refine Kd.R_append k170 (w0 := w) w.heap.size rfl (.tmp 52) (.tmp 58) 155 170 (.agg #[(.int .i64 0), (.int .i64 0), (.int .i64 0)]) 24 rfl Try.underlying155 info170 rfl (by decide) (by omega) u5 x5_3 (⟨wrap64 (x13_1 + 1), wrap64 ((rd (rd_L1 l0 x13_1) x48_3) + 1), 1000000000⟩ : S170) [.int .i64 (wrap64 (x13_1 + 1)), .int .i64 (wrap64 ((rd (rd_L1 l0 x13_1) x48_3) + 1)), .int .i64 1000000000] (fun _ => True) (fun _ => False) rfl rfl ?aP (fun _ hk => hk.elim) ?aF ?aO ?aB ?aS ?aL ?_; (case aP => exact k170_mkM _ _ _ (⟨wrap64 (x13_1 + 1), wrap64 ((rd (rd_L1 l0 x13_1) x48_3) + 1), 1000000000⟩ : S170)); (case aB => exact (by repeat (first | (with_reducible first | exact HB.out | apply bal | apply bdN | apply bd1) | exact HB.out))); (case aF => exact (fun _ _ => trivial)); (case aO => exact (by (with_reducible repeat (first | apply Kd.Ral | apply Kd.RdN | apply Kd.Rdr)); exact HO_5.out)); (case aS => exact (below_size (by repeat (first | (with_reducible first | exact HB.out | apply bal | apply bdN | apply bd1) | exact HB.out)))); (case aL => have := LMc17.out; omega); intro v140 w18 ho hb hg hat; rw [← Ny139.out] at ho; have n0_ := As.mk (hb); have n1_ := As.mk (ho); clear HB; clear HO_5; have HB := n0_; have HO141 := n1_; clear n0_ n1_; clear ho hb hg hat))
               go_roundg k3
               case measure => have := HK1.out; have := HJ6.out; have := HK3.out; omega
               case rel => exact ⟨(y139), (wrap64 (x48_3 + 1)), (by first | rfl | (simp; done) | (simp [*]; done)), H', ⟨by have := HK1.out; have := HJ6.out; have := HK3.out; omega⟩, ⟨by (with_reducible repeat (first | apply Kd.Ral | apply Kd.RdN | apply Kd.Rdr)); exact HO141.out⟩, ⟨by repeat (first | (with_reducible first | exact HB.out | apply bal | apply bdN | apply bd1) | exact HB.out)⟩⟩
              ·rw [if_neg c17] at H
               exact absurd H (by simp)
             ·rw [if_neg c16] at H
              exact absurd H (by simp)
            ·rw [if_neg c15] at H
             exact absurd H (by simp)
           ·rw [if_neg c14] at H
            have c14b0 : decide (x48_3 < ((rd_L1 l0 x13_1).length : Int)) = false := decide_eq_false c14
            clear c14
            have H' := As.mk H
            clear H
            go_wp2
            go_roundg k3
            case measure => have := HK1.out; have := HJ6.out; have := HK3.out; omega
            case rel => exact ⟨(x5_3), (wrap64 (x13_1 + 1)), (by first | rfl | (simp; done) | (simp [*]; done)), H', ⟨by have := HK1.out; have := HJ6.out; have := HK3.out; omega⟩, ⟨by (with_reducible repeat (first | apply Kd.Ral | apply Kd.RdN | apply Kd.Rdr)); exact HO_5.out⟩, ⟨by repeat (first | (with_reducible first | exact HB.out | apply bal | apply bdN | apply bd1) | exact HB.out)⟩⟩
      ·rw [if_neg c6] at H
       exact absurd H (by simp)
     ·rw [if_neg c5] at H
      exact absurd H (by simp)
    ·rw [if_neg c4] at H
     exact absurd H (by simp)
   ·rw [if_neg c3] at H
    have c3b0 : decide (x13_1 < (l0.length : Int)) = false := decide_eq_false c3
    clear c3
    obtain rfl := Option.some.inj H
    go_wp2
    go_ret
    exact ⟨_, by first | rfl | (simp [errW_none, errW_some] <;> rfl) | (simp [*, errW_none, errW_some] <;> rfl), by (with_reducible repeat (first | apply Kd.Ral | apply Kd.RdN | apply Kd.Rdr)); exact HO_5.out, by repeat (first | (with_reducible first | exact HB.out | apply bal | apply bdN | apply bd1) | exact HB.out)⟩
def spec_paFind.f (k : Nat) (l0 : List (List Int)) (l1 : List Int) : Option (List Int) := (spec_paEdges.f k l0 l1).bind fun t142 => ((spec_mfLeast.f k (wrap64 ((l0.length : Int) + 2)) t142).bind fun t145 => ((spec_paOf.f k t145).bind fun t148 => (some t148)))
theorem spec_paFind.mono : ∀ a0 a1 k, LeO (spec_paFind.f k a0 a1) (spec_paFind.f (k + 1) a0 a1) := by
 intro a0 a1 k
 unfold spec_paFind.f
 repeat' first
   | (with_reducible exact spec_mfLeast.mono _ _ _)
   | (with_reducible exact spec_paEdges.mono _ _ _)
   | (with_reducible exact spec_paOf.mono _ _)
   | (with_reducible exact LeO.refl _)
   | (with_reducible exact LeO.none _)
   | (with_reducible refine LeO.ite ?_ ?_)
   | (with_reducible refine LeO.bind ?_ (fun _ => ?_))
   | exact spec_mfLeast.mono _ _ _
   | exact spec_paEdges.mono _ _ _
   | exact spec_paOf.mono _ _
   | exact LeO.none _
   | refine LeO.ite ?_ ?_
   | refine LeO.bind ?_ (fun _ => ?_)
set_option maxHeartbeats 8000000 in
set_option maxRecDepth 100000 in
theorem spec_paFind.calls (k : Nat) (A0 : Option Addr) (c0 : Nat) (l0 : List (List Int)) (A1 : Option Addr) (c1 : Nat) (l1 : List Int) (r : List Int) (w : World) (hr0 : Kd.C (Kd.slice 3 (Kd.int .i64)) w A0 l0.length l0) (hc0 : l0.length ≤ c0) (hr1 : Kd.C (Kd.int .i64) w A1 l1.length l1) (hc1 : l1.length ≤ c1) (h : spec_paFind.f k l0 l1 = some r) :
  Calls Try.prog 113 #[.slice A0 l0.length c0, .slice A1 l1.length c1] w fun e w' => ∃ v0_ : Value, e = .returned (v0_) ∧ Kd.R (Kd.int .i64) 3 w' w.heap.size (fun _ => True) v0_ r ∧ Below w.heap.size w w' := by
 have HR0 := As.mk hr0
 have HC0 := As.mk hc0
 clear hr0 hc0
 have HR1 := As.mk hr1
 have HC1 := As.mk hc1
 clear hr1 hc1
 have HB := As.mk (Below.refl w.heap.size w)
 have H : ((spec_paEdges.f k l0 l1).bind fun t142 => ((spec_mfLeast.f k (wrap64 ((l0.length : Int) + 2)) t142).bind fun t145 => ((spec_paOf.f k t145).bind fun t148 => (some t148)))) = some r := h
 clear h
 replace H := Option.bind_eq_some_iff.mp H
 obtain ⟨t142, A30, H⟩ := H
 try dsimp only at H
 have A3 := As.mk A30
 clear A30
 replace H := Option.bind_eq_some_iff.mp H
 obtain ⟨t145, A40, H⟩ := H
 try dsimp only at H
 have A4 := As.mk A40
 clear A40
 replace H := Option.bind_eq_some_iff.mp H
 obtain ⟨t148, A50, H⟩ := H
 try dsimp only at H
 have A5 := As.mk A50
 clear A50
 obtain rfl := Option.some.inj H
 go_enter Try.func113, Try.ntmps113
 go_wp2_with (first | ((with_reducible refine gate_callee (f := 140) rfl ?_); refine goesL_ (some 10) rfl rfl Try.func140 (by kernel_rfl) rfl #[.slice A0 l0.length c0, .slice A1 l1.length c1] rfl (by (try simp only [List.map_toArray, List.map_cons, List.map_nil]); first | done | rfl | (simp only [List.length_drop, List.length_take]; rfl)) ?_; (with_reducible refine (spec_paEdges.calls k _ _ l0 _ _ l1 t142 _ ?side1 ?side2 ?side3 ?side4 A3.out).mono ?_); (case side1 => repeat (first | exact HR0.out | (with_reducible refine Kd.Cal ?_ _) | (with_reducible refine Kd.CdN ?_ _) | (with_reducible refine Kd.Cdr ?_))); (case side2 => exact HC0.out); (case side3 => repeat (first | exact HR1.out | (with_reducible refine Kd.Cal ?_ _) | (with_reducible refine Kd.CdN ?_ _) | (with_reducible refine Kd.Cdr ?_))); (case side4 => exact HC1.out); rintro e w6 ⟨v143, rfl, ho0, hb⟩; refine ⟨_, rfl, ?_⟩; have n0_ := As.mk (Kd.R_lower ho0 (below_size (by repeat (first | (with_reducible first | exact HB.out | apply bal | apply bdN | apply bd1) | exact HB.out)))); have n1_ := As.mk (below_step (by repeat (first | (with_reducible first | exact HB.out | apply bal | apply bdN | apply bd1) | exact HB.out)) hb); clear HB; have HO144 := n0_; have HB := n1_; clear n0_ n1_; (try clear hb); (try clear hb2); (try clear hk); (try clear hi); (try clear ho0); obtain ⟨Ao7, co7, eo7⟩ := Kd.R_slice HO144.out; subst eo7) | ((with_reducible refine gate_callee (f := 139) rfl ?_); refine goesL_ (some 11) rfl rfl Try.func139 (by kernel_rfl) rfl #[.int .i64 (wrap64 ((l0.length : Int) + 2)), .slice Ao7 t142.length co7] rfl (by (try simp only [List.map_toArray, List.map_cons, List.map_nil]); first | done | rfl | (simp only [List.length_drop, List.length_take]; rfl)) ?_; (with_reducible refine (spec_mfLeast.calls k (wrap64 ((l0.length : Int) + 2)) _ _ t142 t145 _ ?side1 ?side2 A4.out).mono ?_); (case side1 => repeat (first | exact (Kd.R_reads' HO144.out).2.2 | (with_reducible refine Kd.Cal ?_ _) | (with_reducible refine Kd.CdN ?_ _) | (with_reducible refine Kd.Cdr ?_))); (case side2 => exact (Kd.R_reads' HO144.out).2.1); rintro e w8 ⟨v146, rfl, ho0, hb⟩; refine ⟨_, rfl, ?_⟩; have n0_ := As.mk (Kd.R_below (by (with_reducible repeat (first | apply Kd.Ral | apply Kd.RdN | apply Kd.Rdr)); exact HO144.out) hb); have n1_ := As.mk (Kd.R_lower ho0 (below_size (by repeat (first | (with_reducible first | exact HB.out | apply bal | apply bdN | apply bd1) | exact HB.out)))); have n2_ := As.mk (below_step (by repeat (first | (with_reducible first | exact HB.out | apply bal | apply bdN | apply bd1) | exact HB.out)) hb); clear HO144; clear HB; have HO144 := n0_; have HO147 := n1_; have HB := n2_; clear n0_ n1_ n2_; (try clear hb); (try clear hb2); (try clear hk); (try clear hi); (try clear ho0); obtain ⟨Ao9, co9, eo9⟩ := Kd.R_slice HO147.out; subst eo9) | ((with_reducible refine gate_callee (f := 138) rfl ?_); refine goesL_ (some 12) rfl rfl Try.func138 (by kernel_rfl) rfl #[.slice Ao9 t145.length co9] rfl (by (try simp only [List.map_toArray, List.map_cons, List.map_nil]); first | done | rfl | (simp only [List.length_drop, List.length_take]; rfl)) ?_; (with_reducible refine (spec_paOf.calls k _ _ t145 t148 _ ?side1 ?side2 A5.out).mono ?_); (case side1 => repeat (first | exact (Kd.R_reads' HO147.out).2.2 | (with_reducible refine Kd.Cal ?_ _) | (with_reducible refine Kd.CdN ?_ _) | (with_reducible refine Kd.Cdr ?_))); (case side2 => exact (Kd.R_reads' HO147.out).2.1); rintro e w10 ⟨v149, rfl, ho0, hb⟩; refine ⟨_, rfl, ?_⟩; have n0_ := As.mk (Kd.R_below (by (with_reducible repeat (first | apply Kd.Ral | apply Kd.RdN | apply Kd.Rdr)); exact HO144.out) hb); have n1_ := As.mk (Kd.R_elder' (by (with_reducible repeat (first | apply Kd.Ral | apply Kd.RdN | apply Kd.Rdr)); exact HO147.out) (Kd.R_base ho0) hb); have n2_ := As.mk (Kd.R_lower (Kd.R_new' ho0 (Kd.R_lt (by (with_reducible repeat (first | apply Kd.Ral | apply Kd.RdN | apply Kd.Rdr)); exact HO147.out))) (below_size (by repeat (first | (with_reducible first | exact HB.out | apply bal | apply bdN | apply bd1) | exact HB.out)))); have n3_ := As.mk (below_step (by repeat (first | (with_reducible first | exact HB.out | apply bal | apply bdN | apply bd1) | exact HB.out)) hb); clear HO144; clear HO147; clear HB; have HO144 := n0_; have HO147 := n1_; have HO150 := n2_; have HB := n3_; clear n0_ n1_ n2_ n3_; (try clear hb); (try clear hb2); (try clear hk); (try clear hi); (try clear ho0)))
 go_ret
 exact ⟨_, by first | rfl | (simp [errW_none, errW_some] <;> rfl) | (simp [*, errW_none, errW_some] <;> rfl), by (with_reducible repeat (first | apply Kd.Ral | apply Kd.RdN | apply Kd.Rdr)); exact Kd.R_mono HO150.out (fun _ hk => trivial), by repeat (first | (with_reducible first | exact HB.out | apply bal | apply bdN | apply bd1) | exact HB.out)⟩
def spec_l1Own.f (l0 : List Int) : Option (List Int) := (some (([] : List Int) : List Int)).bind fun y151 => (if y151.length + l0.length < 17592186044416 then (some (y151 ++ l0)) else (none))
set_option maxHeartbeats 8000000 in
set_option maxRecDepth 100000 in
theorem spec_l1Own.calls (A0 : Option Addr) (c0 : Nat) (l0 : List Int) (r : List Int) (w : World) (hr0 : Kd.C (Kd.int .i64) w A0 l0.length l0) (hc0 : l0.length ≤ c0) (h : spec_l1Own.f l0 = some r) :
  Calls Try.prog 121 #[.slice A0 l0.length c0] w fun e w' => ∃ v0_ : Value, e = .returned (v0_) ∧ Kd.R (Kd.int .i64) 3 w' w.heap.size (fun _ => True) v0_ r ∧ Below w.heap.size w w' := by
 have HR0 := As.mk hr0
 have HC0 := As.mk hc0
 clear hr0 hc0
 have HB := As.mk (Below.refl w.heap.size w)
 have H : ((some (([] : List Int) : List Int)).bind fun y151 => (if y151.length + l0.length < 17592186044416 then (some (y151 ++ l0)) else (none))) = some r := h
 clear h
 obtain ⟨y151, hy151⟩ : ∃ y_ : List Int, y_ = (([] : List Int)) := ⟨_, rfl⟩
 replace H : (if y151.length + l0.length < 17592186044416 then (some (y151 ++ l0)) else (none)) = some r := by first | (rw [hy151]; with_reducible exact H) | (have H2_ := (Option.bind_some _ _).symm.trans H; rw [hy151]; with_reducible exact H2_) | (have H2_ := (Option.bind_some _ _).symm.trans H; with_reducible exact H2_) | with_reducible exact H | (rw [hy151]; exact H) | exact H
 have Ny151 := As.mk hy151
 clear hy151
 by_cases c2 : y151.length + l0.length < 17592186044416
 ·rw [if_pos c2] at H
  have LMc2 := As.mk c2
  clear c2
  obtain ⟨y154, hy154⟩ : ∃ y_ : List Int, y_ = (y151 ++ l0) := ⟨_, rfl⟩
  replace H : (some y154) = some r := by first | (rw [hy154]; with_reducible exact H) | (have H2_ := (Option.bind_some _ _).symm.trans H; rw [hy154]; with_reducible exact H2_) | (have H2_ := (Option.bind_some _ _).symm.trans H; with_reducible exact H2_) | with_reducible exact H | (rw [hy154]; exact H) | exact H
  have Ny154 := As.mk hy154
  clear hy154
  obtain rfl := Option.some.inj H
  go_enter Try.func121, Try.ntmps121
  go_wp2_with (first | ((with_reducible refine gate_dst (N := 3) rfl ?_); refine Kd.R_lit (Kd.int .i64) _ 3 ?hg (N := 3) ?hd (xs := ([] : List Int)) (inner := []) (ok := fun _ => True) (okp := fun _ => True) ?hr ?hp (fun _ hk => hk) trivial (Below.refl _ _) (Nat.le_refl _) (by simp) ?_; (case hd => rfl); (case hg => rfl); (case hr => first | (go_simp; done) | (go_simp; rfl)); (case hp => exact (Reps.none _ _)); intro v152 w3 ho4 hb hg_ hnew_; clear hg_ hnew_; (first | rw [← Ny151.out] at ho4 | (simp only [Int.reduceToNat] at ho4; rw [← Ny151.out] at ho4)); have n0_ := As.mk (Kd.R_lower ho4 (below_size (by repeat (first | (with_reducible first | exact HB.out | apply bal | apply bdN | apply bd1) | exact HB.out)))); have n1_ := As.mk (below_step (by repeat (first | (with_reducible first | exact HB.out | apply bal | apply bdN | apply bd1) | exact HB.out)) hb); clear HB; have HO153 := n0_; have HB := n1_; clear n0_ n1_; clear hb ho4) | ((with_reducible refine gate_builtin (b := .append) (xs := #[.tmp 3, .tmp 4]) rfl ?_); at_builtin; refine Kd.R_append_rows (Kd.int .i64) (w0 := w) w.heap.size rfl (.tmp 3) (.tmp 4) 23 3 (.int .i64 0) 8 rfl Try.underlying23 info3 rfl (by decide) (by omega) v152 y151 l0 _ _ _ (fun _ => True) (fun _ => False) rfl rfl ?aO ?aR (fun _ _ h => h) (fun _ h => h.elim) ?aF ?aB ?aS ?aL ?_; (case aR => repeat (first | exact (Kd.C_below HR0.out HB.out) | (with_reducible refine Kd.Cal ?_ _) | (with_reducible refine Kd.CdN ?_ _) | (with_reducible refine Kd.Cdr ?_))); (case aB => exact (by repeat (first | (with_reducible first | exact HB.out | apply bal | apply bdN | apply bd1) | exact HB.out))); (case aF => exact (fun _ _ => trivial)); (case aO => exact (by (with_reducible repeat (first | apply Kd.Ral | apply Kd.RdN | apply Kd.Rdr)); exact HO153.out)); (case aS => exact (below_size (by repeat (first | (with_reducible first | exact HB.out | apply bal | apply bdN | apply bd1) | exact HB.out)))); (case aL => have := LMc2.out; omega); intro v155 w5 ho hb hg hat; rw [← Ny154.out] at ho; have n0_ := As.mk (hb); have n1_ := As.mk (ho); clear HB; clear HO153; have HB := n0_; have HO156 := n1_; clear n0_ n1_; clear ho hb hg hat))
  go_ret
  exact ⟨_, by first | rfl | (simp [errW_none, errW_some] <;> rfl) | (simp [*, errW_none, errW_some] <;> rfl), by (with_reducible repeat (first | apply Kd.Ral | apply Kd.RdN | apply Kd.Rdr)); exact HO156.out, by repeat (first | (with_reducible first | exact HB.out | apply bal | apply bdN | apply bd1) | exact HB.out)⟩
 ·rw [if_neg c2] at H
  exact absurd H (by simp)
def spec_l1Has.l0 : Nat → Int → List Int → Int → Int → Option (Bool)
 | 0, _, _, _, _ => none
 | k + 1, x1, x7, x8, x9 => if x9 < x8 then (if 0 ≤ x9 then (if x9 < (x7.length : Int) then (if (rd x7 x9) = x1 then (some true) else (spec_l1Has.l0 k x1 x7 x8 (wrap64 (x9 + 1)))) else (none)) else (none)) else (some false)
def spec_l1Has.f (k : Nat) (l0 : List Int) (a1 : Int) : Option (Bool) := spec_l1Has.l0 k a1 l0 (l0.length : Int) 0
theorem spec_l1Has.mono_l : ∀ k, (∀ y0 y1 y2 y3, LeO (spec_l1Has.l0 k y0 y1 y2 y3) (spec_l1Has.l0 (k + 1) y0 y1 y2 y3))
 | 0 => fun _ _ _ _ r h => by simp [spec_l1Has.l0] at h
 | k + 1 => by
  have ih0 := spec_l1Has.mono_l k
  ·intro y0 y1 y2 y3
   unfold spec_l1Has.l0
   repeat' first
   | (with_reducible exact ih0 _ _ _ _)
   | (with_reducible exact LeO.refl _)
   | (with_reducible exact LeO.none _)
   | (with_reducible refine LeO.ite ?_ ?_)
   | (with_reducible refine LeO.bind ?_ (fun _ => ?_))
   | exact ih0 _ _ _ _
   | exact LeO.none _
   | refine LeO.ite ?_ ?_
   | refine LeO.bind ?_ (fun _ => ?_)
theorem spec_l1Has.mono : ∀ a0 a1 k, LeO (spec_l1Has.f k a0 a1) (spec_l1Has.f (k + 1) a0 a1) := by
 intro a0 a1 k
 have ih0 := spec_l1Has.mono_l k
 unfold spec_l1Has.f
 repeat' first
   | (with_reducible exact ih0 _ _ _ _)
   | (with_reducible exact LeO.refl _)
   | (with_reducible exact LeO.none _)
   | (with_reducible refine LeO.ite ?_ ?_)
   | (with_reducible refine LeO.bind ?_ (fun _ => ?_))
   | exact ih0 _ _ _ _
   | exact LeO.none _
   | refine LeO.ite ?_ ?_
   | refine LeO.bind ?_ (fun _ => ?_)
set_option maxHeartbeats 8000000 in
set_option maxRecDepth 100000 in
theorem spec_l1Has.calls (k : Nat) (A0 : Option Addr) (c0 : Nat) (l0 : List Int) (a1 : Int) (r : Bool) (w : World) (hr0 : Kd.C (Kd.int .i64) w A0 l0.length l0) (hc0 : l0.length ≤ c0) (h : spec_l1Has.f k l0 a1 = some r) :
  Calls Try.prog 147 #[.slice A0 l0.length c0, .int .i64 a1] w fun e w' => e = .returned (.bool r) ∧ Drawn0 w w' := by
 have HR0 := As.mk hr0
 have HC0 := As.mk hc0
 clear hr0 hc0
 have H : (spec_l1Has.l0 k a1 l0 (l0.length : Int) 0) = some r := h
 clear h
 have H' := As.mk H
 clear H
 go_enter Try.func147, Try.ntmps147
 go_wp2
 go_loopg [9] k (fun kq v9 w' => ∃ (x9_1 : Int), v9 = .int .i64 x9_1 ∧ As (spec_l1Has.l0 kq a1 l0 (l0.length : Int) x9_1 = some r) ∧ As (kq ≤ k) ∧ Drawn0 w w')
 case atStart => exact ⟨(0), (by first | rfl | (simp; done) | (simp [*]; done)), H', ⟨Nat.le_refl _⟩, by repeat (first | exact Drawn0.refl _ | apply Drawn0.step)⟩
 case round =>
  clear H'
  try clear c1
  try clear p2
  obtain ⟨x9_1, rfl, HA, HK1, ⟨m1, rfl⟩⟩ := hrel
  cases gk with
  | zero => exact absurd HA.out (by simp [spec_l1Has.l0])
  | succ k1 =>
   have H := HA.out
   clear HA
   simp only [spec_l1Has.l0] at H
   by_cases c3 : x9_1 < (l0.length : Int)
   ·rw [if_pos c3] at H
    have c3b0 : decide (x9_1 < (l0.length : Int)) = true := decide_eq_true c3
    clear c3
    by_cases c4 : 0 ≤ x9_1
    ·rw [if_pos c4] at H
     have c4b0 : decide (0 ≤ x9_1) = true := decide_eq_true c4
     clear c4
     by_cases c5 : x9_1 < (l0.length : Int)
     ·rw [if_pos c5] at H
      have c5b0 : decide (x9_1 < (l0.length : Int)) = true := decide_eq_true c5
      clear c5
      by_cases c6 : (rd l0 x9_1) = a1
      ·rw [if_pos c6] at H
       have c6b0 : ((rd l0 x9_1) == a1) = true := beq_iff_eq.mpr c6
       have c6b1 : ((rd l0 x9_1) != a1) = false := bne_eq_false_iff_eq.mpr c6
       clear c6
       obtain rfl := Option.some.inj H
       have p157 : 0 ≤ (x9_1 : Int) := of_decide_eq_true (by first | (with_reducible assumption) | assumption)
       have q157 : x9_1 < (l0.length : Int) := of_decide_eq_true (by first | (with_reducible assumption) | assumption)
       obtain ⟨ad157, e157, hx157_0⟩ := Kd.at_int HR0.out x9_1 p157 q157
       cases e157
       replace p157 := eq_true p157
       replace q157 := eq_true q157
       go_wp2
       go_ret
       exact ⟨by first | rfl | (simp; done) | (simp [*]; done), by repeat (first | exact Drawn0.refl _ | apply Drawn0.step)⟩
      ·rw [if_neg c6] at H
       have c6b0 : ((rd l0 x9_1) == a1) = false := beq_eq_false_iff_ne.mpr c6
       have c6b1 : ((rd l0 x9_1) != a1) = true := bne_iff_ne.mpr c6
       have H' := As.mk H
       clear H
       have p157 : 0 ≤ (x9_1 : Int) := of_decide_eq_true (by first | (with_reducible assumption) | assumption)
       have q157 : x9_1 < (l0.length : Int) := of_decide_eq_true (by first | (with_reducible assumption) | assumption)
       obtain ⟨ad157, e157, hx157_0⟩ := Kd.at_int HR0.out x9_1 p157 q157
       cases e157
       replace p157 := eq_true p157
       replace q157 := eq_true q157
       go_wp2
       go_roundg k1
       case measure => have := HK1.out; omega
       case rel => exact ⟨(wrap64 (x9_1 + 1)), (by first | rfl | (simp; done) | (simp [*]; done)), H', ⟨by have := HK1.out; omega⟩, by repeat (first | exact Drawn0.refl _ | apply Drawn0.step)⟩
     ·rw [if_neg c5] at H
      exact absurd H (by simp)
    ·rw [if_neg c4] at H
     exact absurd H (by simp)
   ·rw [if_neg c3] at H
    have c3b0 : decide (x9_1 < (l0.length : Int)) = false := decide_eq_false c3
    clear c3
    obtain rfl := Option.some.inj H
    go_wp2
    go_ret
    exact ⟨by first | rfl | (simp; done) | (simp [*]; done), by repeat (first | exact Drawn0.refl _ | apply Drawn0.step)⟩
end Go.Proofs.Ytclpjlaielphfaa.PF
end
