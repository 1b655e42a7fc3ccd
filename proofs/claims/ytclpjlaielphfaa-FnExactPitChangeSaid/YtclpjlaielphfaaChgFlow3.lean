/- Used by the claim's last text. -/
import Derived.Test.YtclpjlaielphfaaChgFlow1
section
namespace Go.Proofs.Ytclpjlaielphfaa.Flow
open Go Go.RowKit Go.Proofs.YtclpjlaielphfaaW.PrintWords Go.Proofs.YtclpjlaielphfaaW.PrintLast Go.Proofs.YtclpjlaielphfaaW.PrintMore
set_option linter.unusedVariables false
set_option linter.unusedSimpArgs false
abbrev mfCells (E : List (List Int)) (tt left : List Int) (bE cE : Nat) (AT AL : Option Addr) (cT cL : Nat) : Array Value :=
 #[.int .i64 (E.length : Int), .slice AT tt.length cT, .slice AL left.length cL, .slice (some ⟨bE, 0, none⟩) E.length cE]
structure LvInv (w w' : World) (g bE cE : Nat) (AT AL : Option Addr) (cT cL : Nat) (E : List (List Int)) (tt left : List Int) (ok : Nat → Prop) (bV : Nat) (V Q : List Int) (vQ : Value) : Prop where
 hg : w'.heap[g]? = some (.cells (mfCells E tt left bE cE AT AL cT cL) 174 (0, 0))
 fE : Kd.F (Kd.slice 3 (Kd.int .i64)) w' ok (some ⟨bE, 0, none⟩) E.length E
 fT : Kd.F (Kd.int .i64) w' ok AT tt.length tt
 fL : Kd.F (Kd.int .i64) w' ok AL left.length left
 hok : ∀ k, ok k → k < w.heap.size
 hV : IA w' bV V
 hQ : Kd.R (Kd.int .i64) 3 w' w.heap.size (fun k => k ≠ bV ∧ w.heap.size ≤ k) vQ Q
 lV : V.length = E.length
 gbV : w.heap.size ≤ bV
 glt : g < w.heap.size
 mov : Below w.heap.size w w'
namespace LvInv
variable {w w' : World} {g bE cE : Nat} {AT AL : Option Addr} {cT cL : Nat} {E : List (List Int)} {tt left : List Int} {ok : Nat → Prop} {bV : Nat} {V Q : List Int} {vQ : Value}
theorem level (h : LvInv w w' g bE cE AT AL cT cL E tt left ok bV V Q vQ) (T x : Int) (hT : 0 ≤ T ∧ T < (E.length : Int)) : LvInv w (w'.setCell ⟨bV, T.toNat, none⟩ (.int .i64 x)) g bE cE AT AL cT cL E tt left ok bV (V.set T.toNat x) Q vQ where
 hg := blk_far' h.hg (by have := h.glt; have := h.gbV; omega) _ _
 fE := Kd.F_far (p := ⟨bV, T.toNat, none⟩) h.fE (fun k hk => by have := h.hok k hk; have := h.gbV; show k ≠ bV; omega) _
 fT := Kd.F_far (p := ⟨bV, T.toNat, none⟩) h.fT (fun k hk => by have := h.hok k hk; have := h.gbV; show k ≠ bV; omega) _
 fL := Kd.F_far (p := ⟨bV, T.toNat, none⟩) h.fL (fun k hk => by have := h.hok k hk; have := h.gbV; show k ≠ bV; omega) _
 hok := h.hok
 hV := Arr.set h.hV T.toNat (by rw [h.lV]; omega) x
 hQ := Kd.R_far (p := ⟨bV, T.toNat, none⟩) h.hQ (fun k hk => hk.1) _
 lV := by rw [List.length_set]; exact h.lV
 gbV := h.gbV
 glt := h.glt
 mov := below_set h.mov h.gbV
theorem later {w2 : World} (h : LvInv w w' g bE cE AT AL cT cL E tt left ok bV V Q vQ) (hb : Below w'.heap.size w' w2) : LvInv w w2 g bE cE AT AL cT cL E tt left ok bV V Q vQ where
 hg := blk_below' h.hg hb
 fE := Kd.F_below h.fE hb
 fT := Kd.F_below h.fT hb
 fL := Kd.F_below h.fL hb
 hok := h.hok
 hV := h.hV.below hb
 hQ := Kd.R_below h.hQ hb
 lV := h.lV
 gbV := h.gbV
 glt := h.glt
 mov := below_then h.mov h.mov.size hb
theorem queued {w2 : World} {v2 : Value} {Q2 : List Int} (h : LvInv w w' g bE cE AT AL cT cL E tt left ok bV V Q vQ) (hq : Kd.R (Kd.int .i64) 3 w2 w.heap.size (fun k => k ≠ bV ∧ w.heap.size ≤ k) v2 Q2) (hgr : w'.grownBy w2 vQ.ownBlock) : LvInv w w2 g bE cE AT AL cT cL E tt left ok bV V Q2 v2 where
 hg := by
  rw [hgr.block g (blk_lt h.hg) (fun he => by have := (h.hQ.1 g he.symm).2; have := h.glt; omega)]
  exact h.hg
 fE := Kd.F_grown h.fE hgr (fun k hk he => by have := (h.hQ.1 k he.symm).2; have := h.hok k hk; omega)
 fT := Kd.F_grown h.fT hgr (fun k hk he => by have := (h.hQ.1 k he.symm).2; have := h.hok k hk; omega)
 fL := Kd.F_grown h.fL hgr (fun k hk he => by have := (h.hQ.1 k he.symm).2; have := h.hok k hk; omega)
 hok := h.hok
 hV := h.hV.move (hgr.block bV h.hV.lt (fun he => (h.hQ.1 bV he.symm).1 rfl))
 hQ := hq
 lV := h.lV
 gbV := h.gbV
 glt := h.glt
 mov := h.mov.grown hgr h.mov.size (fun k hk => (h.hQ.1 k hk).2)
end LvInv
def LvPost (w : World) (E : List (List Int)) (V : List Int) (e : Ending) (w' : World) : Prop :=
 ∃ bV : Nat, e = .returned (.slice (some ⟨bV, 0, none⟩) E.length E.length) ∧ IA w' bV V ∧ V.length = E.length ∧ w.heap.size ≤ bV ∧ Below w.heap.size w w'
set_option maxHeartbeats 8000000 in
set_option maxRecDepth 100000 in
theorem levels_calls (k : Nat) (g bE cE : Nat) (AT AL : Option Addr) (cT cL : Nat) (E : List (List Int)) (tt left : List Int) (ok : Nat → Prop) (w : World) (V : List Int)
  (hg : w.heap[g]? = some (.cells (mfCells E tt left bE cE AT AL cT cL) 174 (0, 0)))
  (fE : Kd.F (Kd.slice 3 (Kd.int .i64)) w ok (some ⟨bE, 0, none⟩) E.length E) (fT : Kd.F (Kd.int .i64) w ok AT tt.length tt) (fL : Kd.F (Kd.int .i64) w ok AL left.length left) (hok : ∀ b, ok b → b < w.heap.size)
  (h : lv k E tt left = some V) :
  Calls Try.prog 156 #[.pointer (some ⟨g, 0, none⟩)] w (LvPost w E V) := by
 unfold lv at h
 by_cases hn : 0 < E.length ∧ E.length ≤ 1000000
 ·rw [if_pos hn] at h
  obtain ⟨hn0, hn1⟩ := hn
  have glt := blk_lt hg
  have h0 : w.cell? ⟨g, 0, none⟩ = some (.int .i64 (E.length : Int)) := blk_cell hg 0 _ rfl
  have HG := As.mk hg
  have HN0 := As.mk hn0
  have HN1 := As.mk hn1
  have HGL := As.mk glt
  have HFE := As.mk fE
  have HFT := As.mk fT
  have HFL := As.mk fL
  have HOK := As.mk hok
  have H := As.mk h
  clear hg hn0 hn1 glt fE fT fL hok h
  go_enter Try.func156, Try.ntmps156
  go_wp2_with (first
   | ((with_reducible refine gate_dst (N := 13) rfl ?_); go_must (refine ev_make (enc := Value.int .i64) (0 : Int) rfl (N := 13) rfl 23 3 _ _ rfl E.length rfl rfl Try.underlying23 8 info3 ⟨rfl, rfl⟩ (by have := HN1.out; omega) (by have := HN1.out; omega) ?_; intro w1 hA hb hs; have HA1 := As.mk hA; have HM1 := As.mk hb; clear hA hb hs h0))
   )
  go_loopg [16] E.length (fun kq v16 w' => ∃ j : Int, v16 = .int .i64 j ∧ As (0 ≤ j ∧ j + (kq : Int) = (E.length : Int)) ∧ As (IA w' w.heap.size (List.replicate j.toNat (-1 : Int) ++ List.replicate (E.length - j.toNat) 0)) ∧ As (Below w.heap.size w w'))
  case atStart => exact ⟨0, rfl, ⟨Int.le_refl _, by omega⟩, by simpa using HA1, HM1⟩
  case round =>
   clear HA1 HM1
   obtain ⟨j, rfl, HJ, HA1, HM1⟩ := hrel
   by_cases hj : j < (E.length : Int)
   ·have cj : decide (j < (E.length : Int)) = true := decide_eq_true hj
    have p0 : 0 ≤ j := HJ.out.1
    have hlen : (List.replicate j.toNat (-1 : Int) ++ List.replicate (E.length - j.toNat) 0).length = E.length := by rw [List.length_append, List.length_replicate, List.length_replicate]; omega
    have cA := IA.at_ HA1.out j p0 (by rw [hlen]; exact hj)
    have fA := HA1.out.free j.toNat
    have hset : (List.replicate j.toNat (-1 : Int) ++ List.replicate (E.length - j.toNat) 0).set j.toNat (-1) = List.replicate (j + 1).toNat (-1 : Int) ++ List.replicate (E.length - (j + 1).toNat) 0 := by
     rw [List.set_append_right _ _ (by simp), List.length_replicate, Nat.sub_self]
     rw [show (j + 1).toNat = j.toNat + 1 by omega, List.replicate_succ', List.append_assoc]
     congr 1
     rw [show E.length - j.toNat = (E.length - (j.toNat + 1)) + 1 by omega, List.replicate_succ]
     rfl
    have HSET := As.mk hset
    have HW : As (wrap64 (j + 1) = j + 1) := ⟨by have := HN1.out; unfold wrap64; omega⟩
    have HLEN := As.mk hlen
    have HP := As.mk hj
    have HP0 := As.mk p0
    generalize rd (List.replicate j.toNat (-1 : Int) ++ List.replicate (E.length - j.toNat) 0) j = X at *
    clear hset hlen
    replace p0 := eq_true p0
    replace hj := eq_true hj
    go_wp2_with (first
     | ((with_reducible refine gate_store (t := 3) (p := 21) rfl ?_); go_must (refine store_event (t := 3) (p := 21) (v := ?v2) (w1 := wr.setCell ⟨w.heap.size, j.toNat, none⟩ (.int .i64 (-1))) ?hg ?ho ?hn ?hr ?_; (case ho => rfl); (case hg => rfl); (case hn => rfl); (case hr => first | (go_simp; done) | (go_simp; rfl)); intro w2 hw2; have HA2 : As (IA w2 w.heap.size (List.replicate (j + 1).toNat (-1 : Int) ++ List.replicate (E.length - (j + 1).toNat) 0)) := ⟨by rw [hw2, ← HSET.out]; exact Arr.set HA1.out j.toNat (by rw [HLEN.out]; have := HP.out; have := HP0.out; omega) (-1)⟩; have HM2 : As (Below w.heap.size w w2) := ⟨by rw [hw2]; exact below_set HM1.out (Nat.le_refl _)⟩; clear hw2 HA1 HM1 cA fA))
     )
    go_roundg (gk - 1)
    case measure => have := HJ.out; have := HP.out; omega
    case rel => exact ⟨j + 1, by rw [HW.out], ⟨by have := HJ.out; omega, by have := HJ.out; have := HP.out; omega⟩, HA2, HM2⟩
   ·have cj : decide (j < (E.length : Int)) = false := decide_eq_false hj
    have HA2 : As (IA wr w.heap.size (List.replicate E.length (-1))) := ⟨by
     have h1 := HA1.out
     have h2 : j.toNat = E.length := by have := HJ.out; omega
     rw [h2, Nat.sub_self] at h1
     simpa using h1⟩
    have p0 : (0 : Int) < (E.length : Int) := by have := HN0.out; omega
    have cA : wr.cell? ⟨w.heap.size, 0, none⟩ = some (.int .i64 (-1)) := by
     have h_ := HA2.out.cell 0 (by have := HN0.out; simp; omega)
     simpa using h_
    have fA := HA2.out.free 0
    clear HA1 HJ hj
    go_wp2_with (first
     | ((with_reducible refine gate_store (t := 3) (p := 24) rfl ?_); go_must (refine store_event (t := 3) (p := 24) (v := ?v3) (w1 := wr.setCell ⟨w.heap.size, 0, none⟩ (.int .i64 0)) ?hg ?ho ?hn ?hr ?_; (case ho => rfl); (case hg => rfl); (case hn => rfl); (case hr => first | (go_simp; done) | (go_simp; rfl)); intro w2 hw2; have HA3 : As (IA w2 w.heap.size ((List.replicate E.length (-1 : Int)).set 0 0)) := ⟨by rw [hw2]; exact Arr.set HA2.out 0 (by have := HN0.out; simp; omega) 0⟩; have HM2 : As (Below w.heap.size w w2) := ⟨by rw [hw2]; exact below_set HM1.out (Nat.le_refl _)⟩; clear hw2 HA2 HM1 cA fA p0))
     | ((with_reducible refine gate_dst (N := 25) rfl ?_); go_must (refine ev_lit (enc := Value.int .i64) [(0 : Int)] rfl (N := 25) rfl (e := 3) ?hr ?_; (case hr => first | (go_simp; done) | (go_simp; rfl)); intro w5 hA hh hb hs; have HA5 := As.mk (HA3.out.below hb); have HM5 : As (Below w.heap.size w w5) := ⟨below_then HM2.out HM2.out.size hb⟩; have HQ5 := As.mk hh; have HS5 : As (w.heap.size + 1 ≤ w2.heap.size) := ⟨HA3.out.lt⟩; clear hA hh hb hs HA3 HM2))
     )
    have HJ : As (LvInv w w5 g bE cE AT AL cT cL E tt left ok w.heap.size ((List.replicate E.length (-1 : Int)).set 0 0) [0] (.slice (some ⟨w2.heap.size, 0, none⟩) 1 1)) := ⟨{
     hg := blk_below' HG.out HM5.out
     fE := Kd.F_below HFE.out HM5.out
     fT := Kd.F_below HFT.out HM5.out
     fL := Kd.F_below HFL.out HM5.out
     hok := HOK.out
     hV := HA5.out
     hQ := ⟨fun b hb => by
       have hb' : w2.heap.size = b := by simpa [Value.ownBlock] using hb
       have := HS5.out
       omega, [Value.int .i64 0], ⟨by simp [Kd.int, Kd.scalar], .inr ⟨w2.heap.size, 1, _, rfl, by have := HS5.out; omega, HQ5.out, by simp, by simp [maxLen], by simp [Kd.int, Kd.scalar], by simp [Kd.int, Kd.scalar]⟩⟩, ⟨by simp [Kd.int, Kd.scalar], fun j p hj => by
        cases j with
        | zero => simp at hj; subst hj; simp [Kd.int, Kd.scalar]
        | succ j => simp at hj⟩⟩
     lV := by simp
     gbV := Nat.le_refl _
     glt := HGL.out
     mov := HM5.out }⟩
    clear HG HFE HFT HFL HOK HA5 HM5 HQ5 HS5
    go_loopg [5, 6] k (fun kq v5 v6 w' => ∃ (V1 Q1 : List Int) (vQ : Value) (i : Int), v5 = vQ ∧ v6 = .int .i64 i ∧ As (lvOut E tt left kq V1 Q1 i = some V) ∧ As (kq ≤ k) ∧ As (LvInv w w' g bE cE AT AL cT cL E tt left ok w.heap.size V1 Q1 vQ))
    case atStart => exact ⟨_, _, _, 0, rfl, rfl, H, ⟨Nat.le_refl _⟩, HJ⟩
    case round =>
     clear H HJ
     obtain ⟨V1, Q1, vQ, i, rfl, rfl, H, HK, HJ⟩ := hrel
     cases gk with
     | zero => exact absurd H.out (by simp [lvOut])
     | succ k1 =>
      obtain ⟨AQ, cQ, eQ, hlc, hCq⟩ := Kd.R_reads HJ.out.hQ
      subst eQ
      have h := H.out
      simp only [lvOut] at h
      by_cases hi : i < (Q1.length : Int)
      ·rw [if_pos hi] at h
       by_cases ha : 0 ≤ i ∧ inb (rd Q1 i) E
       ·rw [if_pos ha] at h
        obtain ⟨ad, c, hAQ, hcl, hKc, hcc⟩ := Kd.C_get hCq 0 i ha.1 hi
        subst hAQ
        have hKc' : c = [Value.int .i64 (rd Q1 i)] := hKc
        subst hKc'
        have hca : wr.cell? (ad.add i.toNat) = some (.int .i64 (rd Q1 i)) := by
         have h_ := hcc 0 _ rfl
         simpa [Kd.int, Kd.scalar] using h_
        obtain ⟨adE, B, cB, hadE, hcB, hlB, hFB⟩ := F_row HJ.out.fE (rd Q1 i) ha.2.1 ha.2.2
        cases hadE
        rw [add_plain] at hcB
        have c3 : wr.cell? ⟨g, 3, none⟩ = some (.slice (some ⟨bE, 0, none⟩) E.length cE) := blk_cell HJ.out.hg 3 _ rfl
        have p0 : 0 ≤ i := ha.1
        have p1 : 0 ≤ rd Q1 i := ha.2.1
        have p2 : rd Q1 i < (E.length : Int) := ha.2.2
        have ci : decide (i < (Q1.length : Int)) = true := decide_eq_true hi
        have HI : As (0 ≤ i ∧ i < (Q1.length : Int)) := ⟨ha.1, hi⟩
        have HP : As (0 ≤ rd Q1 i ∧ rd Q1 i < (E.length : Int)) := ⟨ha.2.1, ha.2.2⟩
        obtain ⟨R, hR⟩ : ∃ R, R = rowAt E (rd Q1 i) := ⟨_, rfl⟩
        have hR' : E.getD (rd Q1 i).toNat [] = R := hR.symm
        rw [hR'] at hcB hlB hFB
        rw [← hR] at h
        have HFB := As.mk hFB
        have H2 := As.mk h
        generalize hai : rd Q1 i = a at *
        have HAI := As.mk hai
        clear hcl hKc hcc hR hR' h ha H hFB hCq hai
        replace p0 := eq_true p0
        replace p1 := eq_true p1
        replace p2 := eq_true p2
        replace hi := eq_true hi
        go_wp2
        go_quiet (fail)
        go_wp2
        have HJ2 : As (LvInv w (wr.drewN nq) g bE cE AT AL cT cL E tt left ok w.heap.size V1 Q1 (.slice (some ad) Q1.length cQ)) := ⟨HJ.out.later (bdN (Below.refl _ _) nq)⟩
        have HFB2 : As (Kd.F (Kd.int .i64) (wr.drewN nq) ok B R.length R) := ⟨Kd.F_drewN HFB.out nq⟩
        clear HJ HFB c3 hcB hca p0 p1 p2 hi ci hlB hlc
        go_loopg [5, 43] R.length (fun kq v5 v43 w' => ∃ (es : List Int) (V2 Q3 : List Int) (vQ : Value) (j : Int), v5 = vQ ∧ v43 = .int .i64 j ∧ As (es.length = kq ∧ 0 ≤ j ∧ es = R.drop j.toNat ∧ j + (kq : Int) = (R.length : Int)) ∧ As (((lvIn tt left a es V2 Q3).bind fun r => lvOut E tt left k1 r.1 r.2 (wrap64 (i + 1))) = some V) ∧ As (rd Q3 i = a ∧ i < (Q3.length : Int)) ∧ As (LvInv w w' g bE cE AT AL cT cL E tt left ok w.heap.size V2 Q3 vQ) ∧ As (Kd.F (Kd.int .i64) w' ok B R.length R))
        case atStart => exact ⟨R, V1, Q1, _, 0, rfl, rfl, ⟨rfl, Int.le_refl _, rfl, by omega⟩, H2, ⟨HAI.out, HI.out.2⟩, HJ2, HFB2⟩
        case round =>
         clear HJ2 H2 HFB2
         obtain ⟨es, V2, Q3, vQ, j, rfl, rfl, HL, H, HQI, HJ, HF⟩ := hrel
         cases es with
         | nil =>
          have h := H.out
          simp only [lvIn, Option.bind_some] at h
          have hj : ¬ j < (R.length : Int) := by have := HL.out; simp at this; omega
          have cj : decide (j < (R.length : Int)) = false := decide_eq_false hj
          have H3 := As.mk h
          clear h hj
          go_wp2
          go_roundg k1
          case measure => have := HK.out; omega
          case rel => exact ⟨V2, Q3, _, _, rfl, rfl, H3, ⟨by have := HK.out; omega⟩, HJ⟩
         | cons e es =>
          obtain ⟨hkq, hj0, hes, hjl⟩ := HL.out
          have hj : j < (R.length : Int) := by simp at hkq; omega
          have cj : decide (j < (R.length : Int)) = true := decide_eq_true hj
          have h2 : R.drop j.toNat = R[j.toNat]'(by omega) :: R.drop (j.toNat + 1) := List.drop_eq_getElem_cons (by omega)
          rw [h2] at hes
          injection hes with h3 h4
          have he : rd R j = e := by rw [rd, List.getD_eq_getElem?_getD, List.getElem?_eq_getElem (by omega), Option.getD_some, ← h3]
          have hes' : es = R.drop (j + 1).toNat := by rw [h4, show (j + 1).toNat = j.toNat + 1 by omega]
          have hwj : wrap64 (j + 1) = j + 1 := by have := Kd.F_max HF.out; unfold wrap64; omega
          obtain ⟨adB, hadB, hce⟩ := F_int HF.out j hj0 hj
          subst hadB
          rw [he] at hce
          have HL3 : As (es.length + 1 = gk ∧ 0 ≤ j + 1 ∧ es = R.drop (j + 1).toNat ∧ j + 1 + (es.length : Int) = (R.length : Int) ∧ wrap64 (j + 1) = j + 1) := ⟨by simpa using hkq, by omega, hes', by simp at hkq; omega, hwj⟩
          have h := H.out
          simp only [lvIn] at h
          by_cases hel : inb e left
          ·rw [if_pos hel] at h
           obtain ⟨adL, hadL, hcL⟩ := F_int HJ.out.fL e hel.1 hel.2
           subst hadL
           have c2 : wr.cell? ⟨g, 2, none⟩ = some (.slice (some adL) left.length cL) := blk_cell HJ.out.hg 2 _ rfl
           obtain ⟨q1, q2⟩ := hel
           have p3 : 0 ≤ j := hj0
           have p4 : j < (R.length : Int) := hj
           by_cases hL : 0 < rd left e
           ·rw [if_pos hL] at h
            by_cases het : inb e tt
            ·rw [if_pos het] at h
             by_cases hti : inb (rd tt e) V2
             ·rw [if_pos hti] at h
              obtain ⟨adT, hadT, hcT⟩ := F_int HJ.out.fT e het.1 het.2
              subst hadT
              have c1 : wr.cell? ⟨g, 1, none⟩ = some (.slice (some adT) tt.length cT) := blk_cell HJ.out.hg 1 _ rfl
              have hcI := IA.at_ HJ.out.hV (rd tt e) hti.1 hti.2
              have HTI := As.mk hti
              obtain ⟨q3, q4⟩ := het
              obtain ⟨q5, q6'⟩ := hti
              have q6 : rd tt e < (E.length : Int) := by rw [← HJ.out.lV]; exact q6'
              have cL0 : decide (0 < rd left e) = true := decide_eq_true hL
              by_cases hin : rd V2 (rd tt e) < 0
              ·rw [if_pos hin] at h
               have cin : decide (rd V2 (rd tt e) < 0) = true := decide_eq_true hin
               by_cases haV : inb a V2
               ·rw [if_pos haV] at h
                by_cases hQl : Q3.length < 1000000
                ·rw [if_pos hQl] at h
                 have H2 := As.mk h
                 have HQL := As.mk hQl
                 have HAV := As.mk haV
                 have HT1 : As (0 ≤ rd tt e ∧ rd tt e < (E.length : Int)) := ⟨q5, q6⟩
                 clear h hkq hj0 hjl he hes' hwj hL H hj HL hin q6' hQl haV h2 h3 h4
                 generalize rd left e = L at *
                 generalize hTe : rd tt e = T at *
                 have HTe := As.mk hTe
                 clear hTe
                 generalize rd V2 T = VT at *
                 replace p3 := eq_true p3
                 replace p4 := eq_true p4
                 replace q1 := eq_true q1
                 replace q2 := eq_true q2
                 replace q3 := eq_true q3
                 replace q4 := eq_true q4
                 replace q5 := eq_true q5
                 replace q6 := eq_true q6
                 obtain ⟨AQ, cQ2, eQ, hlc2, hCq⟩ := Kd.R_reads HJ.out.hQ
                 subst eQ
                 obtain ⟨adQ, c, hAQ, hcl, hKc, hcc⟩ := Kd.C_get hCq 0 i HI.out.1 HQI.out.2
                 subst hAQ
                 have hKc' : c = [Value.int .i64 (rd Q3 i)] := hKc
                 subst hKc'
                 have hca : wr.cell? (adQ.add i.toNat) = some (.int .i64 a) := by
                  have h_ := hcc 0 _ rfl
                  rw [HQI.out.1] at h_
                  simpa [Kd.int, Kd.scalar] using h_
                 have r0 := eq_true HI.out.1
                 have r1 := eq_true HQI.out.2
                 have r2 := eq_true HP.out.1
                 have r3 := eq_true HP.out.2
                 have hcA := IA.at_ HJ.out.hV a HAV.out.1 HAV.out.2
                 clear hcl hKc hcc hCq hlc2
                 go_wp2
                 go_still_tail 17, (by kernel_rfl)
                 change wpList _ _ _ _ _ wr.drew
                 obtain ⟨w6, hw6⟩ : ∃ w6, w6 = wr.drew := ⟨_, rfl⟩
                 rw [← hw6]
                 have HJ6 : As (LvInv w w6 g bE cE (some adT) (some adL) cT cL E tt left ok w.heap.size V2 Q3 _) := ⟨by rw [hw6]; exact HJ.out.later (below_drew (Below.refl _ _))⟩
                 have HF6 : As (Kd.F (Kd.int .i64) w6 ok (some adB) R.length R) := ⟨by rw [hw6]; exact Kd.F_drew HF.out⟩
                 clear hw6 c1 c2 hcT hcA HJ HF hca hcI hcL hce r0 r1 r2 r3
                 have fV := HJ6.out.hV.free T.toNat
                 have cV := IA.at_ HJ6.out.hV T HTI.out.1 HTI.out.2
                 go_wp2_with (first
                  | ((with_reducible refine gate_store (t := 3) (p := 84) rfl ?_); go_must (refine store_event (t := 3) (p := 84) (v := ?v7) (w1 := w6.setCell ⟨w.heap.size, T.toNat, none⟩ (.int .i64 (IntKind.i64.wrap (rd V2 a + 1)))) ?hg ?ho ?hn ?hr ?_; (case ho => rfl); (case hg => rfl); (case hn => rfl); (case hr => first | (go_simp; done) | (go_simp; rfl)); intro w7 hw7; rw [IntWalk.i64_left] at hw7; have HJ7 : As (LvInv w w7 g bE cE (some adT) (some adL) cT cL E tt left ok w.heap.size (V2.set T.toNat (wrap64 (rd V2 a + 1))) Q3 _) := ⟨by rw [hw7]; exact HJ6.out.level T _ HT1.out⟩; have HF7 : As (Kd.F (Kd.int .i64) w7 ok (some adB) R.length R) := ⟨by rw [hw7]; exact Kd.F_far (p := ⟨w.heap.size, T.toNat, none⟩) HF6.out (fun k hk => by have := HJ6.out.hok k hk; show k ≠ w.heap.size; omega) _⟩; clear hw7 HJ6 HF6 fV cV; have c1 : w7.cell? ⟨g, 1, none⟩ = some (.slice (some adT) tt.length cT) := blk_cell HJ7.out.hg 1 _ rfl; have hcT : w7.cell? (adT.add e.toNat) = some (.int .i64 T) := (by obtain ⟨ad_, h1_, h2_⟩ := F_int HJ7.out.fT e (of_eq_true q3) (of_eq_true q4); cases h1_; rw [HTe.out] at h2_; exact h2_)))
                  | ((with_reducible refine gate_dst (N := 94) rfl ?_); go_must (refine Kd.R_append (Kd.int .i64) (w0 := w7) (W := w7) w.heap.size rfl _ _ 23 3 (.int .i64 0) 8 rfl Try.underlying23 info3 rfl (by decide) (by decide) _ Q3 T [.int .i64 T] _ (fun _ => False) rfl rfl rfl (fun _ h_ => h_.elim) (fun k_ h_ => by have := HJ7.out.hV.lt; omega) HJ7.out.hQ (Below.refl _ _) HJ7.out.mov.size (by have := HQL.out; omega) ?_; intro v8 w8 hq hB8 hg8 hat8; have HF8 : As (Kd.F (Kd.int .i64) w8 ok (some adB) R.length R) := ⟨Kd.F_grown HF7.out hg8 (fun k hk he => by have := (HJ7.out.hQ.1 k he.symm).2; have := HJ7.out.hok k hk; omega)⟩; have HJ8 := As.mk (HJ7.out.queued hq hg8); clear hq hB8 hg8 hat8 HJ7 HF7 c1 hcT))
                  )
                 go_roundg es.length
                 case measure => have := HL3.out.1; omega
                 case rel => exact ⟨es, V2.set T.toNat (wrap64 (rd V2 a + 1)), Q3 ++ [T], _, j + 1, rfl, by rw [HL3.out.2.2.2.2], ⟨rfl, HL3.out.2.1, HL3.out.2.2.1, HL3.out.2.2.2.1⟩, H2, ⟨by rw [← HQI.out.1]; have := HQI.out.2; have := HI.out.1; rw [rd, rd, List.getD_eq_getElem?_getD, List.getD_eq_getElem?_getD, List.getElem?_append_left (by omega)], by have := HQI.out.2; rw [List.length_append]; omega⟩, HJ8, HF8⟩
                ·rw [if_neg hQl] at h
                 cases h
               ·rw [if_neg haV] at h
                cases h
              ·rw [if_neg hin] at h
               have H2 := As.mk h
               have cin : decide (rd V2 (rd tt e) < 0) = false := decide_eq_false hin
               clear h hkq hj0 hjl he hes' hwj hL H hj HL hin q6' h2 h3 h4
               generalize rd left e = L at *
               generalize rd tt e = T at *
               generalize rd V2 T = VT at *
               replace p3 := eq_true p3
               replace p4 := eq_true p4
               replace q1 := eq_true q1
               replace q2 := eq_true q2
               replace q3 := eq_true q3
               replace q4 := eq_true q4
               replace q5 := eq_true q5
               replace q6 := eq_true q6
               go_wp2
               go_roundg es.length
               case measure => have := HL3.out.1; omega
               case rel => exact ⟨es, V2, Q3, _, j + 1, rfl, by rw [HL3.out.2.2.2.2], ⟨rfl, HL3.out.2.1, HL3.out.2.2.1, HL3.out.2.2.2.1⟩, H2, HQI, HJ, HF⟩
             ·rw [if_neg hti] at h
              cases h
            ·rw [if_neg het] at h
             cases h
           ·rw [if_neg hL] at h
            have H2 := As.mk h
            have cL0 : decide (0 < rd left e) = false := decide_eq_false hL
            generalize rd left e = L at *
            clear h hkq hj0 hjl he hes' hwj hL H hj h2 h3 h4 HL
            replace p3 := eq_true p3
            replace p4 := eq_true p4
            replace q1 := eq_true q1
            replace q2 := eq_true q2
            go_wp2
            go_roundg es.length
            case measure => have := HL3.out.1; omega
            case rel => exact ⟨es, V2, Q3, _, j + 1, rfl, by rw [HL3.out.2.2.2.2], ⟨rfl, HL3.out.2.1, HL3.out.2.2.1, HL3.out.2.2.2.1⟩, H2, HQI, HJ, HF⟩
          ·rw [if_neg hel] at h
           cases h
       ·rw [if_neg ha] at h
        cases h
      ·rw [if_neg hi] at h
       obtain rfl := Option.some.inj h
       have ci : decide (i < (Q1.length : Int)) = false := decide_eq_false hi
       clear hlc hCq h hi H
       go_wp2
       go_ret
       exact ⟨w.heap.size, rfl, HJ.out.hV, HJ.out.lV, HJ.out.gbV, HJ.out.mov⟩
 ·rw [if_neg hn] at h
  cases h
end Go.Proofs.Ytclpjlaielphfaa.Flow
end
