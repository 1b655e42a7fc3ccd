/- Used by the claim's last text. -/
import Derived.Test.YtclpjlaielphfaaDrpFlow11
import Derived.Test.YtclpjlaielphfaaDrpFlow12
section
namespace Go.Proofs.Ytclpjlaielphfaa.Flow
open Go Go.RowKit Go.Proofs.YtclpjlaielphfaaW.PrintWords Go.Proofs.YtclpjlaielphfaaW.PrintLast Go.Proofs.YtclpjlaielphfaaW.PrintMore Go.Proofs.Ytclpjlaielphfaa.PF
set_option linter.unusedVariables false
set_option linter.unusedSimpArgs false
def lvOuts : Int → List Int → List Int
  | _, [] => []
  | j, d :: ds => if 0 ≤ d then j :: lvOuts (j + 1) ds else lvOuts (j + 1) ds
def leastF (k : Nat) (n : Int) (l : List S170) : Option (List Int) :=
  if 0 ≤ n then (net n.toNat l).bind fun s => (runS s.1 s.2.1 k 0 s.2.2).bind fun r => (lv k s.1 s.2.1 r.2).bind fun V => some (lvOuts 0 V) else none
theorem NetInv.srun {w w' : World} {g bE cE n : Nat} {E : List (List Int)} {tt left : List Int} {vT vL : Value}
    (h : NetInv w w' g (fun vT vL => #[.int .i64 (n : Int), vT, vL, .slice (some ⟨bE, 0, none⟩) n cE]) 174 bE cE E tt left vT vL) (hn : E.length = n) (hm : left.length ≤ 9223372036854775807) :
    ∃ AT AL cT cL bL ok, SRun w' w' g bE cE AT AL cT cL bL E tt left left.length ok ∧ w.heap.size ≤ bL := by
  obtain ⟨AT, cT, rfl⟩ := Kd.R_slice h.hT
  obtain ⟨AL, cL, rfl⟩ := Kd.R_slice h.hL
  obtain ⟨_, _, fE, fT, bL, hLA, hle, hb⟩ := h.parts hm
  refine ⟨AT, AL, cT, cL, bL, _, {
    hg := by have h_ := h.hg; rw [mfCells, hn]; exact h_
    fE := fE
    fT := fT
    hL := hLA
    lL := rfl
    mm := hm
    hb := hb.imp id (fun h2 => ⟨h2.1, h2.2.1, fun b hb => h2.2.2 b hb.1⟩)
    hok := fun b hb => hb.1.2.2
    glt := blk_lt h.hg
    mov := Mov.refl _ _ }, hle⟩
theorem net_left {n : Nat} {l : List S170} {s : NetSt} (h : net n l = some s) : s.2.2.length ≤ 1000002 := by
  unfold net at h
  by_cases hn : 0 < n ∧ n ≤ 1000000
  · rw [if_pos hn] at h
    have : ∀ (l : List S170) (s0 s : NetSt), s0.2.2.length ≤ 1000002 → netFold l s0 = some s → s.2.2.length ≤ 1000002 := by
      intro l
      induction l with
      | nil => intro s0 s h0 h; simp only [netFold, Option.some.injEq] at h; rw [← h]; exact h0
      | cons e es ih =>
        intro s0 s h0 h
        simp only [netFold] at h
        obtain ⟨s1, h1, h⟩ := Option.bind_eq_some_iff.mp h
        refine ih s1 s ?_ h
        unfold netStep at h1
        split at h1
        · simp only [Option.some.injEq] at h1
          rw [← h1]
          simp
          omega
        · cases h1
    exact this l _ s (by simp) h
  · rw [if_neg hn] at h
    cases h
set_option maxHeartbeats 8000000 in
set_option maxRecDepth 100000 in
theorem least_calls' (k : Nat) (a0 : Int) (A1 : Option Addr) (c1 : Nat) (l1 : List S170) (r : List Int) (w : World) (hr1 : Kd.C k170 w A1 l1.length l1) (hc1 : l1.length ≤ c1) (h : leastF k a0 l1 = some r) :
    Calls Try.prog 139 #[.int .i64 a0, .slice A1 l1.length c1] w fun e w' => ∃ v0_ : Value, e = .returned (v0_) ∧ Kd.R (Kd.int .i64) 3 w' w.heap.size (fun _ => True) v0_ r ∧ Below w.heap.size w w' := by
  unfold leastF at h
  by_cases ha : 0 ≤ a0
  · rw [if_pos ha] at h
    obtain ⟨n, rfl⟩ := Int.eq_ofNat_of_zero_le ha
    rw [Int.toNat_natCast] at h
    obtain ⟨⟨E, tt, left⟩, hnet, h⟩ := Option.bind_eq_some_iff.mp h
    obtain ⟨⟨rs, left2⟩, hrun, h⟩ := Option.bind_eq_some_iff.mp h
    obtain ⟨V, hlv, h⟩ := Option.bind_eq_some_iff.mp h
    obtain rfl := Option.some.inj h
    have HNL := Aside0.mk (net_left hnet)
    have HC1 := Aside0.mk (mfStart_calls n A1 c1 l1 w E tt left hr1 hc1 hnet)
    have HRUN := Aside0.mk hrun
    have HLV := Aside0.mk hlv
    have HBG := Aside0.mk (lv_big hlv)
    clear h hnet hrun hlv ha hr1
    go_enter Try.func139, Try.ntmps139
    go_wp2_with (first
      | ((with_reducible refine gate_callee (f := 154) rfl ?_); go_must (refine goesL_ (some 11) rfl rfl Try.func154 (by kernel_rfl) rfl #[.int .i64 n, .slice A1 l1.length c1] rfl (by (try simp only [List.map_toArray, List.map_cons, List.map_nil]); rfl) ?_; refine HC1.out.mono ?_; rintro e_ w1 ⟨g, bE, cE, vT, vL, rfl, hI, hn⟩; refine ⟨_, rfl, ?_⟩; obtain ⟨AT, AL, cT, cL, bL, ok, hS, hbL⟩ := hI.srun hn (by have := HNL.out; simp at this; omega); have HS1 := Aside0.mk hS; have HM1 := Aside0.mk hI.mov; have HBL := Aside0.mk hbL; have HC2 := Aside0.mk (run_callsS k g bE cE AT AL cT cL bL E tt left left.length ok w1 rs left2 hS HRUN.out); clear hI hn hS hbL HC1))
      | ((with_reducible refine gate_callee (f := 155) rfl ?_); go_must (refine goesL_ (some 13) rfl rfl Try.func155 (by kernel_rfl) rfl #[.pointer (some ⟨g, 0, none⟩)] rfl (by (try simp only [List.map_toArray, List.map_cons, List.map_nil]); rfl) ?_; refine HC2.out.mono ?_; rintro e_ w2 ⟨rfl, hS2⟩; refine ⟨_, rfl, ?_⟩; have HC3 := Aside0.mk (hS2.levels HLV.out); have HM2 : Aside0 (Below w.heap.size w w2) := ⟨hS2.mov.below HM1.out (fun k hk => by rw [hk]; exact HBL.out)⟩; clear hS2 HC2 HS1 HM1))
      | ((with_reducible refine gate_callee (f := 156) rfl ?_); go_must (refine goesL_ (some 15) rfl rfl Try.func156 (by kernel_rfl) rfl #[.pointer (some ⟨g, 0, none⟩)] rfl (by (try simp only [List.map_toArray, List.map_cons, List.map_nil]); rfl) ?_; refine HC3.out.mono ?_; rintro e_ w3 ⟨bV, rfl, hV, lV, gbV, hB⟩; refine ⟨_, rfl, ?_⟩; have HV := Aside0.mk hV; have HLV2 := Aside0.mk lV; have HM3 : Aside0 (Below w.heap.size w w3) := ⟨below_then HM2.out HM2.out.size hB⟩; clear hV lV gbV hB HC3 HM2))
      )
    go_loopg [6, 17] E.length (fun kq v6 v17 w' => ∃ (j : Int) (out : List Int) (vO : Value), v6 = vO ∧ v17 = .int .i64 j ∧ Aside0 (0 ≤ j ∧ j + (kq : Int) = (E.length : Int)) ∧ Aside0 (out ++ lvOuts j (V.drop j.toNat) = lvOuts 0 V) ∧ Aside0 ((out.length : Int) ≤ j) ∧ Aside0 (Kd.R KI 3 w' w.heap.size (fun _ => True) vO out) ∧ Aside0 (Below w.heap.size w w') ∧ Aside0 (IA w' bV V ∧ w3.heap.size ≤ w'.heap.size ∧ some bV ≠ vO.ownBlock))
    case atStart => exact ⟨0, [], _, rfl, rfl, ⟨Int.le_refl _, by omega⟩, ⟨by simp⟩, ⟨by simp⟩, ⟨Kd.R_nil _ _ _ _ _⟩, HM3, ⟨HV.out, Nat.le_refl _, by simp [Value.ownBlock]⟩⟩
    case round =>
      clear HV HM3
      obtain ⟨j, out, vO, rfl, rfl, HJ, HO, HOL, HR, HM, HV⟩ := hrel
      by_cases hj : j < (E.length : Int)
      · have cj : decide (j < (E.length : Int)) = true := decide_eq_true hj
        have hj0 : 0 ≤ j := HJ.out.1
        have hjV : j < (V.length : Int) := by rw [HLV2.out]; exact hj
        have cV := IA.at_ HV.out.1 j hj0 hjV
        have hdr : V.drop j.toNat = rd V j :: V.drop (j.toNat + 1) := by
          rw [List.drop_eq_getElem_cons (by omega), rd, List.getD_eq_getElem?_getD, List.getElem?_eq_getElem (by omega), Option.getD_some]
        have hwj : wrap64 (j + 1) = j + 1 := by have := HBG.out.2; unfold wrap64; omega
        have HWJ := Aside0.mk hwj
        have HO2 := HO.out
        rw [hdr, lvOuts, show j.toNat + 1 = (j + 1).toNat by omega] at HO2
        generalize rd V j = d at *
        have HPJ := Aside0.mk hj
        by_cases hd : 0 ≤ d
        · have cd : decide (0 ≤ d) = true := decide_eq_true hd
          rw [if_pos hd] at HO2
          have HO3 : Aside0 ((out ++ [j]) ++ lvOuts (j + 1) (V.drop (j + 1).toNat) = lvOuts 0 V) := ⟨by rw [List.append_assoc]; exact HO2⟩
          replace hj0 := eq_true hj0
          replace hj := eq_true hj
          clear HO HO2 hd hdr hwj hjV
          go_wp2_with (first
            | ((with_reducible refine gate_dst (N := 27) rfl ?_); go_must (refine Kd.R_append KI (w0 := w) (W := wr) w.heap.size rfl (.tmp 24) (.tmp 26) 23 3 (.int .i64 0) 8 rfl Try.underlying23 info3 rfl (by decide) (by decide) u6 out j [.int .i64 j] _ (fun _ => False) rfl rfl rfl (fun _ h_ => h_.elim) (fun _ _ => trivial) HR.out HM.out HM.out.size (by have := HOL.out; have := HPJ.out; have := HBG.out.2; omega) ?_; intro v2 w4 hq hB_ hgr hat; have HR4 := Aside0.mk hq; have HM4 := Aside0.mk hB_; have HV4 : Aside0 (IA w4 bV V ∧ w3.heap.size ≤ w4.heap.size ∧ some bV ≠ v2.ownBlock) := ⟨HV.out.1.move (hgr.block bV HV.out.1.lt HV.out.2.2), Nat.le_trans HV.out.2.1 hgr.size, hat.elim (fun h_ => by rw [h_]; exact HV.out.2.2) (fun ⟨b, hb, hle⟩ => by rw [hb]; intro e_; injection e_ with e_; have := HV.out.1.lt; omega)⟩; clear hq hB_ hgr hat HR HM HV cV))
            )
          go_roundg (gk - 1)
          case measure => have := HJ.out; have := HPJ.out; omega
          case rel => exact ⟨j + 1, out ++ [j], _, rfl, by rw [HWJ.out], ⟨by have := HJ.out; omega, by have := HJ.out; have := HPJ.out; omega⟩, HO3, ⟨by have := HOL.out; simp; omega⟩, HR4, HM4, HV4⟩
        · have cd : decide (0 ≤ d) = false := decide_eq_false hd
          rw [if_neg hd] at HO2
          have HO3 := Aside0.mk HO2
          replace hj0 := eq_true hj0
          replace hj := eq_true hj
          clear HO HO2 hd hdr hwj hjV
          go_wp2
          go_roundg (gk - 1)
          case measure => have := HJ.out; have := HPJ.out; omega
          case rel => exact ⟨j + 1, out, _, rfl, by rw [HWJ.out], ⟨by have := HJ.out; omega, by have := HJ.out; have := HPJ.out; omega⟩, HO3, ⟨by have := HOL.out; omega⟩, HR, HM, HV⟩
      · have cj : decide (j < (E.length : Int)) = false := decide_eq_false hj
        have HO3 : Aside0 (out = lvOuts 0 V) := ⟨by
          have h_ := HO.out
          rw [List.drop_eq_nil_of_le (by have := HJ.out; have := HLV2.out; omega), lvOuts, List.append_nil] at h_
          exact h_⟩
        clear hj HO
        go_wp2
        go_ret
        exact ⟨_, rfl, by rw [← HO3.out]; exact HR.out, HM.out⟩
  · rw [if_neg ha] at h
    cases h
end Go.Proofs.Ytclpjlaielphfaa.Flow
end
