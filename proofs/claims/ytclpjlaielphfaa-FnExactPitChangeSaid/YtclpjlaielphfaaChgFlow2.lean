/- Used by the claim's last text. -/
import Derived.Test.YtclpjlaielphfaaChgFlow1
section
namespace Go.Proofs.Ytclpjlaielphfaa.Flow
open Go Go.RowKit Go.Proofs.YtclpjlaielphfaaW.PrintWords Go.Proofs.YtclpjlaielphfaaW.PrintLast Go.Proofs.YtclpjlaielphfaaW.PrintMore
set_option linter.unusedVariables false
set_option linter.unusedSimpArgs false
def FsPost (w : World) (g bE cE : Nat) (AT AL : Option Addr) (cT cL : Nat) (E : List (List Int)) (tt left : List Int) (vN : Value) (I : List Bool) (V : List Int) (e : Ending) (w' : World) : Prop :=
 ∃ bI bV : Nat, e = .returned (.slice (some ⟨bI, 0, none⟩) E.length E.length) ∧ w'.heap[g]? = some (.cells (resCells E tt left bE cE AT AL cT cL (.slice (some ⟨bV, 0, none⟩) E.length E.length) vN) 172 (0, 0)) ∧
  IA w' bV V ∧ ArrN Value.bool 4 w' bI I ∧ V.length = E.length ∧ I.length = E.length ∧ w.heap.size ≤ bV ∧ w.heap.size ≤ bI ∧ Mov w w' (fun b => b = g)
set_option maxHeartbeats 8000000 in
set_option maxRecDepth 100000 in
theorem fromSource_calls (k : Nat) (g bE cE : Nat) (AT AL : Option Addr) (cT cL : Nat) (E : List (List Int)) (tt left : List Int) (vV vN : Value) (ok : Nat → Prop) (w : World) (I : List Bool) (V : List Int)
  (hg : w.heap[g]? = some (.cells (resCells E tt left bE cE AT AL cT cL vV vN) 172 (0, 0)))
  (fE : Kd.F (Kd.slice 3 (Kd.int .i64)) w ok (some ⟨bE, 0, none⟩) E.length E) (fT : Kd.F (Kd.int .i64) w ok AT tt.length tt) (fL : Kd.F (Kd.int .i64) w ok AL left.length left) (hok : ∀ b, ok b → b < w.heap.size ∧ b ≠ g)
  (h : fs k E tt left = some (I, V)) :
  Calls Try.prog 144 #[.pointer (some ⟨g, 0, none⟩)] w (FsPost w g bE cE AT AL cT cL E tt left vN I V) := by
 unfold fs at h
 by_cases hn : 0 < E.length ∧ E.length ≤ 1000000
 ·rw [if_pos hn] at h
  obtain ⟨hn0, hn1⟩ := hn
  have glt := blk_lt hg
  have h0 : w.cell? ⟨g, 0, none⟩ = some (.slice (some ⟨bE, 0, none⟩) E.length cE) := blk_cell hg 0 _ rfl
  have HG := As.mk hg
  have HN0 := As.mk hn0
  have HN1 := As.mk hn1
  have HGL := As.mk glt
  have HFE := As.mk fE
  have HFT := As.mk fT
  have HFL := As.mk fL
  have HOK := As.mk hok
  have H := As.mk h
  clear hg hn0 hn1 glt fE fT fL hok h
  go_enter Try.func144, Try.ntmps144
  go_wp2_with (first
   | ((with_reducible refine gate_dst (N := 14) rfl ?_); refine ev_make (enc := Value.int .i64) (0 : Int) rfl (N := 14) rfl 23 3 _ _ rfl E.length rfl rfl Try.underlying23 8 info3 ⟨rfl, rfl⟩ (by have := HN1.out; omega) (by have := HN1.out; omega) ?_; intro w1 hA hb hs; have HG1 := As.mk (blk_below' HG.out hb); have c3 : w1.cell? ⟨g, 3, none⟩ = some vV := blk_cell HG1.out 3 _ rfl; have f3 := blk_free HG1.out 3; have HA1 := As.mk hA; have HM1 := As.mk (Mov.of_below hb (fun b => b = g)); have HS1 := As.mk hs; clear hA hb hs h0)
   | ((with_reducible refine gate_store (t := 23) (p := 16) rfl ?_); refine store_event (t := 23) (p := 16) (v := ?v2) (w1 := w1.setCell ⟨g, 3, none⟩ (.slice (some ⟨w.heap.size, 0, none⟩) E.length E.length)) ?hg ?ho ?hn ?hr ?_; (case ho => rfl); (case hg => rfl); (case hn => rfl); (case hr => first | (go_simp; done) | (go_simp; rfl)); intro w2 hw2; have HG2 : As (w2.heap[g]? = some (.cells (resCells E tt left bE cE AT AL cT cL (.slice (some ⟨w.heap.size, 0, none⟩) E.length E.length) vN) 172 (0, 0))) := ⟨by rw [hw2]; exact blk_set HG1.out 3 _⟩; have HA2 : As (IA w2 w.heap.size (List.replicate E.length 0)) := ⟨by rw [hw2]; exact HA1.out.far (by have := HGL.out; omega) _ _⟩; have HM2 : As (Mov w w2 (fun b => b = g)) := ⟨by rw [hw2]; exact HM1.out.setCell g 3 _ (.inl rfl)⟩; have HS2 : As (w2.heap.size = w.heap.size + 1) := ⟨by rw [hw2, ← HS1.out]; simp [World.setCell]⟩; clear hw2 c3 f3 HG1 HA1 HM1 HS1; have h0 : w2.cell? ⟨g, 0, none⟩ = some (.slice (some ⟨bE, 0, none⟩) E.length cE) := blk_cell HG2.out 0 _ rfl)
   | ((with_reducible refine gate_dst (N := 22) rfl ?_); refine ev_makeN (enc := Value.bool) false rfl (N := 22) rfl 138 4 _ _ rfl E.length rfl rfl Try.underlying138 1 info4 ⟨rfl, rfl⟩ (by have := HN1.out; omega) (by have := HN1.out; omega) ?_; intro w3 hA hb hs; have HG3 := As.mk (blk_below' HG2.out hb); have HV3 := As.mk (HA2.out.below hb); have HI3 := As.mk hA; have HM3 := As.mk (HM2.out.trans (Mov.of_below hb (fun _ => False)) (fun _ hk => hk.elim)); have HS3 : As (w3.heap.size = w.heap.size + 2) := ⟨by rw [hs, HS2.out]⟩; obtain ⟨bI, hbI⟩ : ∃ bI, bI = w2.heap.size := ⟨_, rfl⟩; rw [← hbI] at HI3; rw [← hbI]; have HBI : As (bI = w.heap.size + 1) := ⟨by rw [hbI, HS2.out]⟩; clear hbI hA hb hs h0 HG2 HA2 HM2 HS2; have p0 : (0 : Int) < (E.length : Int) := (by have := HN0.out; omega); have cI : w3.cell? ⟨bI, 0, none⟩ = some (.bool false) := (by have h_ := HI3.out.arr.cell 0 (by have := HN0.out; simp; omega); simpa using h_); have fI := HI3.out.free 0)
   | ((with_reducible refine gate_store (t := 4) (p := 24) rfl ?_); refine store_event (t := 4) (p := 24) (v := ?v4) (w1 := w3.setCell ⟨bI, 0, none⟩ (.bool true)) ?hg ?ho ?hn ?hr ?_; (case ho => rfl); (case hg => rfl); (case hn => rfl); (case hr => first | (go_simp; done) | (go_simp; rfl)); intro w4 hw4; have HG4 : As (w4.heap[g]? = some (.cells (resCells E tt left bE cE AT AL cT cL (.slice (some ⟨w.heap.size, 0, none⟩) E.length E.length) vN) 172 (0, 0))) := ⟨by rw [hw4]; exact blk_far' HG3.out (by have := HGL.out; have := HBI.out; omega) _ _⟩; have HV4 : As (IA w4 w.heap.size (List.replicate E.length 0)) := ⟨by rw [hw4]; exact HV3.out.far (by have := HBI.out; omega) _ _⟩; have HI4 : As (ArrN Value.bool 4 w4 bI ((List.replicate E.length false).set 0 true)) := ⟨by rw [hw4]; exact HI3.out.set 0 (by have := HN0.out; simp; omega) true⟩; have HM4 : As (Mov w w4 (fun b => b = g)) := ⟨by rw [hw4]; exact HM3.out.setCell bI 0 _ (.inr (by have := HBI.out; omega))⟩; have HS4 : As (w4.heap.size = w.heap.size + 2) := ⟨by rw [hw4, ← HS3.out]; simp [World.setCell]⟩; clear hw4 HG3 HV3 HI3 HM3 HS3 cI fI p0)
   | ((with_reducible refine gate_dst (N := 25) rfl ?_); refine ev_lit (enc := Value.int .i64) [(0 : Int)] rfl (N := 25) rfl (e := 3) ?hr ?_; (case hr => first | (go_simp; done) | (go_simp; rfl)); intro w5 hA hh hb hs; have HG5 := As.mk (blk_below' HG4.out hb); have HV5 := As.mk (HV4.out.below hb); have HI5 := As.mk (HI4.out.below hb); have HM5 := As.mk (HM4.out.trans (Mov.of_below hb (fun _ => False)) (fun _ hk => hk.elim)); have HQ5 := As.mk hh; have HS5 : As (w4.heap.size = w.heap.size + 2) := HS4; clear hA hh hb hs HG4 HV4 HI4 HM4 HS4)
   )
  have HJ : As (FsInv w w5 g bE cE AT AL cT cL E tt left vN ok w.heap.size bI ((List.replicate E.length false).set 0 true) (List.replicate E.length 0) [0] (.slice (some ⟨w4.heap.size, 0, none⟩) 1 1)) := ⟨{
   hg := HG5.out
   fE := Kd.F_kept HFE.out HM5.out.kept (fun b hb => (HOK.out b hb).2)
   fT := Kd.F_kept HFT.out HM5.out.kept (fun b hb => (HOK.out b hb).2)
   fL := Kd.F_kept HFL.out HM5.out.kept (fun b hb => (HOK.out b hb).2)
   hok := HOK.out
   hI := HI5.out
   hV := HV5.out
   hQ := Kd.Q_of_R ⟨fun b hb => by
     have hb' : w4.heap.size = b := by simpa [Value.ownBlock] using hb
     have := HS5.out
     omega, [Value.int .i64 0], ⟨by simp [Kd.int, Kd.scalar], .inr ⟨w4.heap.size, 1, _, rfl, by have := HS5.out; omega, HQ5.out, by simp, by simp [maxLen], by simp [Kd.int, Kd.scalar], by simp [Kd.int, Kd.scalar]⟩⟩, ⟨by simp [Kd.int, Kd.scalar], fun j p hj => by
      cases j with
      | zero => simp at hj; subst hj; simp [Kd.int, Kd.scalar]
      | succ j => simp at hj⟩⟩
   lI := by simp
   lV := by simp
   gbI := by have := HBI.out; omega
   gbV := Nat.le_refl _
   glt := HGL.out
   mov := HM5.out }⟩
  clear HG HFE HFT HFL HOK HG5 HV5 HI5 HM5 HQ5 HS5
  go_loopg [4] k (fun kq v4 w' => ∃ (I1 : List Bool) (V1 Q1 : List Int) (vQ : Value), v4 = vQ ∧ As (fsOut E tt left kq I1 V1 Q1 = some (I, V)) ∧ As (kq ≤ k) ∧ As (FsInv w w' g bE cE AT AL cT cL E tt left vN ok w.heap.size bI I1 V1 Q1 vQ))
  case atStart => exact ⟨_, _, _, _, rfl, H, ⟨Nat.le_refl _⟩, HJ⟩
  case round =>
   clear H HJ
   obtain ⟨I1, V1, Q1, vQ, rfl, H, HK, HJ⟩ := hrel
   cases gk with
   | zero => exact absurd H.out (by simp [fsOut])
   | succ k1 =>
    obtain ⟨AQ, cQ, eQ, hlc⟩ := Kd.Q_slice HJ.out.hQ
    subst eQ
    have hq := Kd.Q_reads' HJ.out.hQ
    cases Q1 with
    | nil =>
     have h := H.out
     simp only [fsOut, Option.some.injEq, Prod.mk.injEq] at h
     obtain ⟨rfl, rfl⟩ := h
     clear hq hlc
     go_wp2
     go_ret
     exact ⟨bI, w.heap.size, rfl, HJ.out.hg, HJ.out.hV, HJ.out.hI, HJ.out.lV, HJ.out.lI, HJ.out.gbV, HJ.out.gbI, HJ.out.mov⟩
    | cons a Q2 =>
     have h := H.out
     simp only [fsOut] at h
     by_cases ha : inb a E
     ·rw [if_pos ha] at h
      obtain ⟨ad, c, hAQ, hcl, hKc, hcc⟩ := Kd.C_get hq.2.2 0 0 (by omega) (by simp)
      subst hAQ
      have hKc' : c = [Value.int .i64 a] := hKc
      subst hKc'
      have hca : wr.cell? ad = some (.int .i64 a) := by
       have h_ := hcc 0 _ rfl
       simpa [Kd.int, Kd.scalar, Addr.add] using h_
      obtain ⟨i3, hi3, hz3⟩ := Option.map_eq_some_iff.1 info3
      simp only [Prod.mk.injEq] at hz3
      obtain ⟨m, hm⟩ : ∃ m, m = (a :: Q2).length := ⟨_, rfl⟩
      have hdrop := Kd.Q_drop (k := 1) HJ.out.hQ (by simp)
      rw [← hm] at hdrop
      have kc := cut_from (P := Try.prog) 23 3 .i64 Try.underlying23 hi3 1 hz3.2.1 (some ad) m cQ 1 (by omega) (by have : (a :: Q2).length = Q2.length + 1 := rfl; omega)
      obtain ⟨A1, hA1⟩ : ∃ A1, A1 = (if cQ = (1 : Int).toNat then some ad else (some ad).map (·.add ((1 : Int).toNat * 1))) := ⟨_, rfl⟩
      rw [← hA1] at kc
      have HQ : As (Kd.Q (Kd.int .i64) 3 wr w.heap.size (fun k => k ≠ w.heap.size ∧ w.heap.size ≤ k) (.slice A1 (m - (1 : Int).toNat) (cQ - (1 : Int).toNat)) Q2) := ⟨by rw [hA1]; exact hdrop⟩
      obtain ⟨adE, B, cB, hadE, hcB, hlB, hFB⟩ := F_row HJ.out.fE a ha.1 ha.2
      cases hadE
      rw [add_plain] at hcB
      have HFB := As.mk hFB
      have c0 : wr.cell? ⟨g, 0, none⟩ = some (.slice (some ⟨bE, 0, none⟩) E.length cE) := blk_cell HJ.out.hg 0 _ rfl
      obtain ⟨R, hR⟩ : ∃ R, R = rowAt E a := ⟨_, rfl⟩
      have hR' : E.getD a.toNat [] = R := hR.symm
      rw [hR'] at hcB hlB HFB
      clear hFB
      have HR := As.mk hR
      have hm0 : decide ((0 : Int) < (m : Int)) = true := decide_eq_true (by have : (a :: Q2).length = Q2.length + 1 := rfl; omega)
      have hm1 : (0 : Int) < (m : Int) := of_decide_eq_true hm0
      have hm2 : decide (0 < m) = true := decide_eq_true (by omega)
      have HM := As.mk hm
      have p1 : 0 ≤ a := ha.1
      have p2 : a < (E.length : Int) := ha.2
      have H2 := As.mk h
      have HA := As.mk ha
      rw [← hm]
      clear hq hlc hcl hKc hcc hi3 hz3 hdrop hA1 hR hR' hm h ha H
      replace p1 := eq_true p1
      replace p2 := eq_true p2
      go_wp2
      have HJ2 : As (FsInv w wr g bE cE AT AL cT cL E tt left vN ok w.heap.size bI I1 V1 Q2 (.slice A1 (m - 1) (cQ - 1))) := ⟨{ HJ.out with hQ := HQ.out }⟩
      clear HJ HQ kc hcB c0 hca p1 p2 hm0 hm1 hm2 hlB
      go_loopg [4, 42] R.length (fun kq v4 v42 w' => ∃ (es : List Int) (I2 : List Bool) (V2 Q3 : List Int) (vQ : Value) (j : Int), v4 = vQ ∧ v42 = .int .i64 j ∧ As (es.length = kq ∧ 0 ≤ j ∧ es = R.drop j.toNat ∧ j + (kq : Int) = (R.length : Int)) ∧ As (((fsIn tt left a es I2 V2 Q3).bind fun r => fsOut E tt left k1 r.1 r.2.1 r.2.2) = some (I, V)) ∧ As (FsInv w w' g bE cE AT AL cT cL E tt left vN ok w.heap.size bI I2 V2 Q3 vQ) ∧ As (Kd.F (Kd.int .i64) w' ok B R.length R))
      case atStart => exact ⟨R, I1, V1, Q2, _, 0, rfl, rfl, ⟨rfl, Int.le_refl _, rfl, by omega⟩, ⟨by rw [HR.out]; exact H2.out⟩, HJ2, HFB⟩
      case round =>
       clear HJ2 H2 HFB
       obtain ⟨es, I2, V2, Q3, vQ, j, rfl, rfl, HL, H, HJ, HF⟩ := hrel
       cases es with
       | nil =>
        have h := H.out
        simp only [fsIn, Option.bind_some] at h
        have hj : ¬ j < (R.length : Int) := by have := HL.out; simp at this; omega
        have cj : decide (j < (R.length : Int)) = false := decide_eq_false hj
        have H3 := As.mk h
        clear h hj
        go_wp2
        go_roundg k1
        case measure => have := HK.out; omega
        case rel => exact ⟨I2, V2, Q3, _, rfl, H3, ⟨by have := HK.out; omega⟩, HJ⟩
       | cons e es =>
        obtain ⟨hkq, hj0, hes, hjl⟩ := HL.out
        have hj : j < (R.length : Int) := by simp at hkq; omega
        have cj : decide (j < (R.length : Int)) = true := decide_eq_true hj
        have he : rd R j = e := by
         have h2 : R.drop j.toNat = R[j.toNat]'(by omega) :: R.drop (j.toNat + 1) := List.drop_eq_getElem_cons (by omega)
         rw [h2] at hes
         injection hes with h3 h4
         rw [rd, List.getD_eq_getElem?_getD, List.getElem?_eq_getElem (by omega), Option.getD_some, ← h3]
        have hes' : es = R.drop (j + 1).toNat := by
         have h2 : R.drop j.toNat = R[j.toNat]'(by omega) :: R.drop (j.toNat + 1) := List.drop_eq_getElem_cons (by omega)
         rw [h2] at hes
         injection hes with h3 h4
         rw [h4, show (j + 1).toNat = j.toNat + 1 by omega]
        have hwj : wrap64 (j + 1) = j + 1 := by have := Kd.F_max HF.out; unfold wrap64; omega
        obtain ⟨adB, hadB, hce⟩ := F_int HF.out j hj0 hj
        subst hadB
        rw [he] at hce
        have HL3 : As (es.length + 1 = gk ∧ 0 ≤ j + 1 ∧ es = R.drop (j + 1).toNat ∧ j + 1 + (es.length : Int) = (R.length : Int) ∧ wrap64 (j + 1) = j + 1) := ⟨by simpa using hkq, by omega, hes', by simp at hkq; omega, hwj⟩
        have h := H.out
        simp only [fsIn] at h
        by_cases hel : inb e left
        ·rw [if_pos hel] at h
         obtain ⟨adL, hadL, hcL⟩ := F_int HJ.out.fL e hel.1 hel.2
         subst hadL
         have c2 : wr.cell? ⟨g, 2, none⟩ = some (.slice (some adL) left.length cL) := blk_cell HJ.out.hg 2 _ rfl
         obtain ⟨q1, q2⟩ := hel
         by_cases hL : 0 < rd left e
         ·rw [if_pos hL] at h
          by_cases het : inb e tt
          ·rw [if_pos het] at h
           by_cases hti : inb (rd tt e) I2
           ·rw [if_pos hti] at h
            obtain ⟨adT, hadT, hcT⟩ := F_int HJ.out.fT e het.1 het.2
            subst hadT
            have c1 : wr.cell? ⟨g, 1, none⟩ = some (.slice (some adT) tt.length cT) := blk_cell HJ.out.hg 1 _ rfl
            have hcI := BA_at HJ.out.hI.arr (rd tt e) hti.1 hti.2
            obtain ⟨q3, q4⟩ := het
            obtain ⟨q5, q6'⟩ := hti
            have q6 : rd tt e < (E.length : Int) := by rw [← HJ.out.lI]; exact q6'
            have cL0 : decide (0 < rd left e) = true := decide_eq_true hL
            have p3 : 0 ≤ j := by have := HL.out; omega
            have p4 : j < (R.length : Int) := of_decide_eq_true cj
            by_cases hin : rdB I2 (rd tt e) = true
            ·rw [if_pos hin] at h
             have H2 := As.mk h
             rw [hin] at hcI
             clear h hkq hj0 hes hjl he hes' hwj hL H hj HL hin q6'
             generalize rd left e = L at *
             generalize rd tt e = T at *
             replace p3 := eq_true p3
             replace p4 := eq_true p4
             replace q1 := eq_true q1
             replace q2 := eq_true q2
             replace q3 := eq_true q3
             replace q4 := eq_true q4
             replace q5 := eq_true q5
             replace q6 := eq_true q6
             go_wp2
             go_roundg es.length
             case measure => have := HL3.out.1; omega
             case rel => exact ⟨es, I2, V2, Q3, _, j + 1, rfl, by rw [HL3.out.2.2.2.2], ⟨rfl, HL3.out.2.1, HL3.out.2.2.1, HL3.out.2.2.2.1⟩, H2, HJ, HF⟩
            ·rw [if_neg hin] at h
             replace hin := Bool.eq_false_iff.mpr hin
             rw [hin] at hcI
             by_cases htV : inb (rd tt e) V2
             ·rw [if_pos htV] at h
              by_cases haV : inb a V2
              ·rw [if_pos haV] at h
               by_cases hQl : Q3.length < 1000000
               ·rw [if_pos hQl] at h
                have H2 := As.mk h
                have HQL := As.mk hQl
                have HTV := As.mk htV
                have HAV := As.mk haV
                have HT1 : As (0 ≤ rd tt e ∧ rd tt e < (E.length : Int)) := ⟨q5, q6⟩
                clear h hkq hj0 hes hjl he hes' hwj hL H hj HL hin q6' hQl htV haV
                generalize rd left e = L at *
                generalize hTe : rd tt e = T at *
                have HTe := As.mk hTe
                clear hTe
                replace p3 := eq_true p3
                replace p4 := eq_true p4
                replace q1 := eq_true q1
                replace q2 := eq_true q2
                replace q3 := eq_true q3
                replace q4 := eq_true q4
                replace q5 := eq_true q5
                replace q6 := eq_true q6
                have fI := HJ.out.hI.free T.toNat
                go_wp2_with (first
                 | ((with_reducible refine gate_store (t := 4) (p := 75) rfl ?_); go_must (refine store_event (t := 4) (p := 75) (v := ?v4) (w1 := wr.setCell ⟨bI, T.toNat, none⟩ (.bool true)) ?hg ?ho ?hn ?hr ?_; (case ho => rfl); (case hg => rfl); (case hn => rfl); (case hr => first | (go_simp; done) | (go_simp; rfl)); intro w4 hw4; have HJ4 : As (FsInv w w4 g bE cE (some adT) (some adL) cT cL E tt left vN ok w.heap.size bI (I2.set T.toNat true) V2 Q3 _) := ⟨by rw [hw4]; exact HJ.out.mark T HT1.out⟩; have HF4 : As (Kd.F (Kd.int .i64) w4 ok (some adB) R.length R) := ⟨by rw [hw4]; exact Kd.F_far (p := ⟨bI, T.toNat, none⟩) HF.out (fun k hk => by have := HJ.out.hok k hk; have := HJ.out.gbI; show k ≠ bI; omega) _⟩; clear hw4 HJ HF fI hcI c1 c2 hcL hcT hce; have c3 : w4.cell? ⟨g, 3, none⟩ = some (.slice (some ⟨w.heap.size, 0, none⟩) E.length E.length) := blk_cell HJ4.out.hg 3 _ rfl; have c1 : w4.cell? ⟨g, 1, none⟩ = some (.slice (some adT) tt.length cT) := blk_cell HJ4.out.hg 1 _ rfl; have hcT : w4.cell? (adT.add e.toNat) = some (.int .i64 T) := (by obtain ⟨ad_, h1_, h2_⟩ := F_int HJ4.out.fT e (of_eq_true q3) (of_eq_true q4); cases h1_; rw [HTe.out] at h2_; exact h2_); have hcA := IA.at_ HJ4.out.hV a HAV.out.1 HAV.out.2; have r1 := eq_true HA.out.1; have r2 := eq_true HA.out.2))
                 )
                go_still_tail 20, (by kernel_rfl)
                change wpList _ _ _ _ _ w4.drew
                obtain ⟨w6, hw6⟩ : ∃ w6, w6 = w4.drew := ⟨_, rfl⟩
                rw [← hw6]
                have HJ6 : As (FsInv w w6 g bE cE (some adT) (some adL) cT cL E tt left vN ok w.heap.size bI (I2.set T.toNat true) V2 Q3 _) := ⟨by rw [hw6]; exact HJ4.out.later (below_drew (Below.refl _ _))⟩
                have HF6 : As (Kd.F (Kd.int .i64) w6 ok (some adB) R.length R) := ⟨by rw [hw6]; exact Kd.F_drew HF4.out⟩
                clear hw6 c1 c3 hcT hcA HJ4 HF4
                have fV := HJ6.out.hV.free T.toNat
                have cV := IA.at_ HJ6.out.hV T HTV.out.1 HTV.out.2
                go_wp2_with (first
                 | ((with_reducible refine gate_store (t := 3) (p := 95) rfl ?_); go_must (refine store_event (t := 3) (p := 95) (v := ?v7) (w1 := w6.setCell ⟨w.heap.size, T.toNat, none⟩ (.int .i64 (IntKind.i64.wrap (rd V2 a + 1)))) ?hg ?ho ?hn ?hr ?_; (case ho => rfl); (case hg => rfl); (case hn => rfl); (case hr => first | (go_simp; done) | (go_simp; rfl)); intro w7 hw7; rw [IntWalk.i64_left] at hw7; have HJ7 : As (FsInv w w7 g bE cE (some adT) (some adL) cT cL E tt left vN ok w.heap.size bI (I2.set T.toNat true) (V2.set T.toNat (wrap64 (rd V2 a + 1))) Q3 _) := ⟨by rw [hw7]; exact HJ6.out.level T _ HT1.out⟩; have HF7 : As (Kd.F (Kd.int .i64) w7 ok (some adB) R.length R) := ⟨by rw [hw7]; exact Kd.F_far (p := ⟨w.heap.size, T.toNat, none⟩) HF6.out (fun k hk => by have := HJ6.out.hok k hk; show k ≠ w.heap.size; omega) _⟩; clear hw7 HJ6 HF6 fV cV; have c1 : w7.cell? ⟨g, 1, none⟩ = some (.slice (some adT) tt.length cT) := blk_cell HJ7.out.hg 1 _ rfl; have hcT : w7.cell? (adT.add e.toNat) = some (.int .i64 T) := (by obtain ⟨ad_, h1_, h2_⟩ := F_int HJ7.out.fT e (of_eq_true q3) (of_eq_true q4); cases h1_; rw [HTe.out] at h2_; exact h2_)))
                 | ((with_reducible refine gate_dst (N := 105) rfl ?_); go_must (refine Kd.Q_append (Kd.int .i64) (w0 := w7) (W := w7) w.heap.size rfl _ _ 23 3 (.int .i64 0) 8 rfl Try.underlying23 info3 rfl (by decide) (by decide) _ Q3 T [.int .i64 T] _ (fun _ => False) rfl rfl rfl (fun _ h_ => h_.elim) (fun k_ h_ => by have := HJ7.out.hV.lt; omega) HJ7.out.hQ (Below.refl _ _) HJ7.out.mov.size (by have := HQL.out; omega) ?_; intro v8 w8 hq hB8 hg8 hat8; have HF8 : As (Kd.F (Kd.int .i64) w8 ok (some adB) R.length R) := ⟨Kd.F_grown HF7.out hg8 (fun k hk he => by have := (HJ7.out.hQ.1 k he.symm).2; have := HJ7.out.hok k hk; omega)⟩; have HJ8 := As.mk (HJ7.out.queued hq hg8); clear hq hB8 hg8 hat8 HJ7 HF7 c1 hcT))
                 )
                go_roundg es.length
                case measure => have := HL3.out.1; omega
                case rel => exact ⟨es, I2.set T.toNat true, V2.set T.toNat (wrap64 (rd V2 a + 1)), Q3 ++ [T], _, j + 1, rfl, by rw [HL3.out.2.2.2.2], ⟨rfl, HL3.out.2.1, HL3.out.2.2.1, HL3.out.2.2.2.1⟩, H2, HJ8, HF8⟩
               ·rw [if_neg hQl] at h
                cases h
              ·rw [if_neg haV] at h
               cases h
             ·rw [if_neg htV] at h
              cases h
           ·rw [if_neg hti] at h
            cases h
          ·rw [if_neg het] at h
           cases h
         ·rw [if_neg hL] at h
          have H2 := As.mk h
          have cL0 : decide (0 < rd left e) = false := decide_eq_false hL
          generalize rd left e = L at *
          clear h hkq hj0 hes hjl he hes' hwj hL H hj
          have p3 : 0 ≤ j := by have := HL.out; omega
          have p4 : j < (R.length : Int) := of_decide_eq_true cj
          clear HL
          replace p3 := eq_true p3
          replace p4 := eq_true p4
          replace q1 := eq_true q1
          replace q2 := eq_true q2
          go_wp2
          go_roundg es.length
          case measure => have := HL3.out.1; omega
          case rel => exact ⟨es, I2, V2, Q3, _, j + 1, rfl, by rw [HL3.out.2.2.2.2], ⟨rfl, HL3.out.2.1, HL3.out.2.2.1, HL3.out.2.2.2.1⟩, H2, HJ, HF⟩
        ·rw [if_neg hel] at h
         cases h
     ·rw [if_neg ha] at h
      cases h
 ·rw [if_neg hn] at h
  cases h
end Go.Proofs.Ytclpjlaielphfaa.Flow
end
