/- Used by the claim's last text. -/
import Derived.Test.YtclpjlaielphfaaChgLeast
import Derived.Test.YtclpjlaielphfaaChgPFx6
import Derived.WalkSpells
section
namespace Go.Proofs.Ytclpjlaielphfaa.Flow
open Go Go.RowKit Go.Proofs.YtclpjlaielphfaaW.PrintWords Go.Proofs.YtclpjlaielphfaaW.PrintLast Go.Proofs.YtclpjlaielphfaaW.PrintMore Go.Proofs.Ytclpjlaielphfaa.PF
set_option linter.unusedVariables false
set_option linter.unusedSimpArgs false
def freeAt (W X : List Bool) (i : Nat) (v : Int) : Int := if X.getD i false = true then -1000000000 else if W.getD i false = true then 0 else v
def freeL (W X : List Bool) (vs : List Int) : List Int := vs.mapIdx (freeAt W X)
def freeTo (W X : List Bool) (vs : List Int) (i : Nat) : List Int := (freeL W X vs).take i ++ vs.drop i
theorem freeL_len (W X : List Bool) (vs : List Int) : (freeL W X vs).length = vs.length := by simp [freeL]
theorem freeTo_len (W X : List Bool) (vs : List Int) (i : Nat) (hi : i ≤ vs.length) : (freeTo W X vs i).length = vs.length := by
 simp [freeTo, freeL_len]
 omega
theorem freeTo_zero (W X : List Bool) (vs : List Int) : freeTo W X vs 0 = vs := by simp [freeTo]
theorem freeTo_all (W X : List Bool) (vs : List Int) : freeTo W X vs vs.length = freeL W X vs := by
 simp [freeTo]
 rw [List.take_of_length_le (by rw [freeL_len]; exact Nat.le_refl _)]
theorem freeTo_get (W X : List Bool) (vs : List Int) (i : Nat) (hi : i < vs.length) : (freeTo W X vs i).getD i 0 = vs.getD i 0 := by
 rw [freeTo, List.getD_eq_getElem?_getD, List.getElem?_append_right (by simp [freeL_len]; omega)]
 simp [freeL_len, Nat.min_eq_left (Nat.le_of_lt hi), List.getD_eq_getElem?_getD]
theorem freeTo_succ (W X : List Bool) (vs : List Int) (i : Nat) (hi : i < vs.length) : freeTo W X vs (i + 1) = (freeTo W X vs i).set i (freeAt W X i (vs.getD i 0)) := by
 have h1 : vs.drop i = vs[i] :: vs.drop (i + 1) := List.drop_eq_getElem_cons hi
 have h2 : (freeL W X vs).take (i + 1) = (freeL W X vs).take i ++ [freeAt W X i vs[i]] := by
  rw [List.take_add_one, List.getElem?_eq_getElem (by rw [freeL_len]; exact hi)]
  simp [freeL]
 rw [freeTo, freeTo, h2, h1, List.set_append_right _ _ (by simp [freeL_len]; omega)]
 simp only [List.length_take, freeL_len, Nat.min_eq_left (Nat.le_of_lt hi), Nat.sub_self, List.set_cons_zero, List.append_assoc, List.singleton_append]
 rw [List.getD_eq_getElem?_getD, List.getElem?_eq_getElem hi, Option.getD_some]
def outL (W : List Bool) (l : List Bool) : List Bool := l.mapIdx fun i b => b || W.getD i false
def outTo (W l : List Bool) (i : Nat) : List Bool := (outL W l).take i ++ l.drop i
theorem outL_len (W l : List Bool) : (outL W l).length = l.length := by simp [outL]
theorem outTo_zero (W l : List Bool) : outTo W l 0 = l := by simp [outTo]
theorem outTo_all (W l : List Bool) : outTo W l l.length = outL W l := by
 simp [outTo]
 rw [List.take_of_length_le (by rw [outL_len]; exact Nat.le_refl _)]
theorem outTo_get (W l : List Bool) (i : Nat) (hi : i < l.length) : (outTo W l i)[i]? = some l[i] := by
 rw [outTo, List.getElem?_append_right (by simp [outL_len]; omega)]
 simp [outL_len, Nat.min_eq_left (Nat.le_of_lt hi), List.getElem?_eq_getElem hi]
theorem outTo_succ (W l : List Bool) (i : Nat) (hi : i < l.length) : outTo W l (i + 1) = (outTo W l i).set i (l[i] || W.getD i false) := by
 have h1 : l.drop i = l[i] :: l.drop (i + 1) := List.drop_eq_getElem_cons hi
 have h2 : (outL W l).take (i + 1) = (outL W l).take i ++ [(l[i] || W.getD i false)] := by
  rw [List.take_add_one, List.getElem?_eq_getElem (by rw [outL_len]; exact hi)]
  simp [outL]
 rw [outTo, outTo, h2, h1, List.set_append_right _ _ (by simp [outL_len]; omega)]
 simp only [List.length_take, outL_len, Nat.min_eq_left (Nat.le_of_lt hi), Nat.sub_self, List.set_cons_zero, List.append_assoc, List.singleton_append]
def bestF (k : Nat) (l0 : List (List Int)) (l1 : List Int) (l2 l3 : List Bool) (b : Bool) : Option (List Bool) :=
 if b = false ∧ l1.length ≤ 1000000 ∧ (l2 = [] ∨ l1.length ≤ l2.length) ∧ (l3 = [] ∨ l1.length ≤ l3.length) then
  (impl_pitNetwork.f k l0 (freeL l2 l3 l1)).bind fun p =>
   if 2 ≤ p.1 ∧ p.1 ≤ 1000000 ∧ (l2 = [] ∨ p.1 - 2 ≤ (l2.length : Int)) then
    (net p.1.toNat p.2).bind fun s => (runI s.1 s.2.1 k 0 s.2.2).bind fun r => (fs k s.1 s.2.1 r.2).bind fun m => some (outL l2 ((m.1.drop 1).take (p.1.toNat - 2)))
   else none
 else none
theorem NetInv.irun {w w' : World} {g bE cE n : Nat} {E : List (List Int)} {tt left : List Int} {vT vL : Value}
  (h : NetInv w w' g (fun vT vL => #[.slice (some ⟨bE, 0, none⟩) n cE, vT, vL, .slice none 0 0, .slice none 0 0]) 172 bE cE E tt left vT vL) (hn : E.length = n) (hm : left.length ≤ 9223372036854775807) :
  ∃ AT AL cT cL bL ok, RunInv w' w' g bE cE AT AL cT cL bL E tt left left.length ok (.slice none 0 0) (.slice none 0 0) ∧ w.heap.size ≤ bL ∧ w.heap.size ≤ g := by
 obtain ⟨AT, cT, rfl⟩ := Kd.R_slice h.hT
 obtain ⟨AL, cL, rfl⟩ := Kd.R_slice h.hL
 obtain ⟨_, _, fE, fT, bL, hLA, hle, hb⟩ := h.parts hm
 refine ⟨AT, AL, cT, cL, bL, _, {
  hg := by have h_ := h.hg; rw [resCells, hn]; exact h_
  fE := fE
  fT := fT
  hL := hLA
  lL := rfl
  mm := hm
  hb := hb.imp id (fun h2 => ⟨h2.1, h2.2.1, fun b hb => h2.2.2 b hb.1⟩)
  hok := fun b hb => ⟨hb.1.2.2, hb.2⟩
  glt := blk_lt h.hg
  mov := Mov.refl _ _ }, hle, h.gg⟩
theorem set_getD (l : List Int) (i : Nat) : l.set i (l.getD i 0) = l := by
 apply List.ext_getElem (by simp)
 intro j h1 h2
 rw [List.getElem_set]
 split
 ·rename_i he
  subst he
  rw [List.getD_eq_getElem?_getD, List.getElem?_eq_getElem h2, Option.getD_some]
 ·rfl
set_option maxHeartbeats 8000000 in
set_option maxRecDepth 100000 in
theorem best_walk (k : Nat) (A0 : Option Addr) (c0 : Nat) (l0 : List (List Int)) (A1 : Option Addr) (c1 : Nat) (l1 : List Int) (A2 : Option Addr) (c2 : Nat) (l2 : List Bool) (A3 : Option Addr) (c3 : Nat) (l3 : List Bool) (r : List Bool) (w : World)
  (hr0 : Kd.C KR w A0 l0.length l0) (hc0 : l0.length ≤ c0) (hr1 : Kd.C KI w A1 l1.length l1) (hc1 : l1.length ≤ c1) (hr2 : Kd.C Kd.bool w A2 l2.length l2) (hr3 : Kd.C Kd.bool w A3 l3.length l3)
  (hA2 : l2 = [] → A2 = none) (hA3 : l3 = [] → A3 = none) (h : bestF k l0 l1 l2 l3 false = some r) :
  Calls Try.prog 115 #[.slice A0 l0.length c0, .slice A1 l1.length c1, .slice A2 l2.length c2, .slice A3 l3.length c3, .bool false] w fun e w' => ∃ v0_ : Value, e = .returned (v0_) ∧ Kd.Q Kd.bool 4 w' w.heap.size (fun _ => True) v0_ r ∧ Below w.heap.size w w' := by
 have HR0 := As.mk hr0
 have HR1 := As.mk hr1
 have HR2 := As.mk hr2
 have HR3 := As.mk hr3
 unfold bestF at h
 by_cases hg : false = false ∧ l1.length ≤ 1000000 ∧ (l2 = [] ∨ l1.length ≤ l2.length) ∧ (l3 = [] ∨ l1.length ≤ l3.length)
 ·rw [if_pos hg] at h
  obtain ⟨_, hl1, hW0, hX0⟩ := hg
  have cases_ : ∀ (A : Option Addr) (l : List Bool), Kd.C Kd.bool w A l.length l → (l = [] → A = none) → (l = [] ∨ l1.length ≤ l.length) → (l = [] ∧ A = none ∨ ∃ ad, A = some ad ∧ l1.length ≤ l.length) := by
   intro A l hc hA hl
   by_cases he : l = []
   ·exact .inl ⟨he, hA he⟩
   ·cases A with
    | none =>
     obtain ⟨ad, h1, _⟩ := hc.2.2 (by cases l <;> simp_all)
     cases h1
    | some ad => exact .inr ⟨ad, rfl, hl.resolve_left he⟩
  have HW := As.mk (cases_ A2 l2 hr2 hA2 hW0)
  have HX := As.mk (cases_ A3 l3 hr3 hA3 hX0)
  have HL1 := As.mk hl1
  obtain ⟨⟨pn, pl⟩, hpit, h⟩ := Option.bind_eq_some_iff.mp h
  replace h : (if 2 ≤ pn ∧ pn ≤ 1000000 ∧ (l2 = [] ∨ pn - 2 ≤ (l2.length : Int)) then (net pn.toNat pl).bind fun s => (runI s.1 s.2.1 k 0 s.2.2).bind fun r => (fs k s.1 s.2.1 r.2).bind fun m => some (outL l2 ((m.1.drop 1).take (pn.toNat - 2))) else none) = some r := h
  by_cases hpn : 2 ≤ pn ∧ pn ≤ 1000000 ∧ (l2 = [] ∨ pn - 2 ≤ (l2.length : Int))
  ·rw [if_pos hpn] at h
   obtain ⟨n, hn⟩ := Int.eq_ofNat_of_zero_le (show 0 ≤ pn by omega)
   subst hn
   rw [Int.toNat_natCast] at h
   obtain ⟨⟨E, tt, left⟩, hnet, h⟩ := Option.bind_eq_some_iff.mp h
   obtain ⟨⟨rs, left2⟩, hrun, h⟩ := Option.bind_eq_some_iff.mp h
   obtain ⟨⟨I, V⟩, hfs, h⟩ := Option.bind_eq_some_iff.mp h
   obtain rfl := Option.some.inj h
   have HPIT := As.mk hpit
   have HPN := As.mk hpn
   have HNET := As.mk hnet
   have HRUN := As.mk hrun
   have HFS := As.mk hfs
   have HA2 := As.mk hA2
   clear hr0 hr1 hr2 hr3 hl1 hW0 hX0 cases_ hpit hpn hnet hrun hfs h hA2 hA3
   go_enter Try.func115, Try.ntmps115
   go_wp2_with (first
    | ((with_reducible refine gate_dst (N := 19) rfl ?_); go_must (refine Kd.R_lit KI (w0 := w) w.heap.size 3 ?hg (N := 19) ?hd (xs := ([] : List Int)) (inner := []) (ok := fun _ => True) (okp := fun _ => True) ?hr ?hp (fun _ hk => hk) trivial (Below.refl _ _) (Nat.le_refl _) (by simp) ?_; (case hd => rfl); (case hg => rfl); (case hr => first | (go_simp; done) | (go_simp; rfl)); (case hp => exact (Reps.none _ _)); intro v1 w1 hR hB hg_ hn_; have HRa := As.mk hR; have HBa := As.mk hB; clear hR hB hg_ hn_))
    | ((with_reducible refine gate_dst (N := 21) rfl ?_); go_must (refine Kd.R_append_rows KI (Rr := KI.K w1) (w0 := w) w.heap.size rfl (.tmp 19) (.tmp 20) 23 3 (.int .i64 0) 8 rfl Try.underlying23 info3 rfl (by decide) (by decide) v1 [] l1 A1 l1.length c1 (fun _ => True) (fun _ => False) rfl rfl HRa.out (Kd.C_below HR1.out HBa.out) (fun _ _ h => h) (fun _ h => h.elim) (fun _ _ => trivial) HBa.out HBa.out.size (by have := HL1.out; simp; omega) ?_; intro v2 w2 hR hB hg_ hn_; rw [List.nil_append] at hR; obtain ⟨AF, cF, eF⟩ := Kd.R_slice hR; subst eF; have HRb := As.mk hR; have HBb := As.mk hB; clear hR hB hg_ hn_ HRa HBa))
    )
   obtain ⟨bF, hLA, hbF⟩ := R_LA HRb.out
   have HBF0 : As (l1 ≠ [] → w.heap.size ≤ bF) := ⟨fun h => Kd.R_base HRb.out bF (hbF h)⟩
   have HLA0 := As.mk hLA
   have HCF := As.mk (Kd.R_reads' HRb.out).2.1
   clear hLA hbF HRb
   go_loopg [24] l1.length (fun kq v24 w' => ∃ i : Int, v24 = .int .i64 i ∧ As (0 ≤ i ∧ i + (kq : Int) = (l1.length : Int)) ∧ As (LA w' AF bF (freeTo l2 l3 l1 i.toNat)) ∧ As (Below w.heap.size w w'))
   case atStart => exact ⟨0, rfl, ⟨Int.le_refl _, by omega⟩, ⟨by rw [show (0 : Int).toNat = 0 from rfl, freeTo_zero]; exact HLA0.out⟩, HBb⟩
   case round =>
    clear HLA0 HBb
    obtain ⟨i, rfl, HJ, HLA, HM⟩ := hrel
    by_cases hi : i < (l1.length : Int)
    ·have ci : decide (i < (l1.length : Int)) = true := decide_eq_true hi
     have hi0 : 0 ≤ i := HJ.out.1
     have HII := As.mk hi
     have hne : freeTo l2 l3 l1 i.toNat ≠ [] := fun e_ => by have h_ := freeTo_len l2 l3 l1 i.toNat (by omega); rw [e_] at h_; simp at h_; omega
     have HBF : As (w.heap.size ≤ bF) := ⟨HBF0.out (fun e_ => by rw [e_] at hi; simp at hi; omega)⟩
     obtain ⟨eAF, hF⟩ := HLA.out.resolve_left hne
     subst eAF
     have HF := As.mk hF
     have fA := hF.free i.toNat
     have cA := IA.at_ hF i hi0 (by rw [freeTo_len _ _ _ _ (by omega)]; exact hi)
     have HFL := As.mk (freeTo_len l2 l3 l1 i.toNat (by omega))
     have HWI : As (wrap64 (i + 1) = i + 1) := ⟨by have := HL1.out; unfold wrap64; omega⟩
     have pI := eq_true hi0
     have pL := eq_true hi
     generalize rd (freeTo l2 l3 l1 i.toNat) i = v0 at *
     clear hne hF HLA
     rcases HW.out with ⟨rfl, rfl⟩ | ⟨adW, rfl, hWl⟩
     ·have hwi : ([] : List Bool).getD i.toNat false = false := rfl
      have hneW : ∀ (w_ : World) (n_ : Nat), (binOp .neq 138 (.slice none n_ c2) (.slice none 0 0)).run Try.prog w_ = .ok (.bool false) w_ := fun w_ n_ => (run_neq_slice_nil_any w_ 138 4 none _ _ _ _ Try.underlying138).trans rfl
      rcases HX.out with ⟨rfl, rfl⟩ | ⟨adX, rfl, hXl⟩
      ·have hxi : ([] : List Bool).getD i.toNat false = false := rfl
       have hneX : ∀ (w_ : World) (n_ : Nat), (binOp .neq 138 (.slice none n_ c3) (.slice none 0 0)).run Try.prog w_ = .ok (.bool false) w_ := fun w_ n_ => (run_neq_slice_nil_any w_ 138 4 none _ _ _ _ Try.underlying138).trans rfl
       have hv := freeTo_succ ([] : List Bool) ([] : List Bool) l1 i.toNat (by omega)
       simp only [freeAt, hxi, hwi, Bool.false_eq_true, if_false, if_true, reduceIte] at hv
       rw [← freeTo_get ([] : List Bool) ([] : List Bool) l1 i.toNat (by omega), set_getD] at hv
       have HV1 := As.mk hv; clear hv hwi hxi hi hi0
       go_wp2
       go_roundg (gk - 1)
       case measure => have := HJ.out; have := HII.out; omega
       case rel => exact ⟨i + 1, by rw [HWI.out], ⟨by have := HJ.out; omega, by have := HJ.out; have := HII.out; omega⟩, ⟨by rw [show (i + 1).toNat = i.toNat + 1 by have := HJ.out; omega, HV1.out]; exact Or.inr ⟨rfl, HF.out⟩⟩, HM⟩
      ·obtain ⟨adX2, cX, eX, _, hKX, hcX⟩ := Kd.C_get (Kd.C_below HR3.out HM.out) false i hi0 (by omega)
       cases eX
       have hKX' : cX = [Value.bool (l3.getD i.toNat false)] := hKX
       subst hKX'
       have hcX0 : wr.cell? (adX.add i.toNat) = some (.bool (l3.getD i.toNat false)) := by have h_ := hcX 0 _ rfl; simpa [Kd.bool, Kd.scalar] using h_
       have pX : (i < (l3.length : Int)) = True := eq_true (by omega)
       have HCX : As (∀ w', Below w.heap.size w w' → w'.cell? (adX.add i.toNat) = some (.bool (l3.getD i.toNat false))) := ⟨fun w' hb => by obtain ⟨a_, c_, e_, _, hk_, hc_⟩ := Kd.C_get (Kd.C_below HR3.out hb) false i hi0 (by omega); cases e_; have hk2_ : c_ = [Value.bool (l3.getD i.toNat false)] := hk_; subst hk2_; have h_ := hc_ 0 _ rfl; simpa [Kd.bool, Kd.scalar] using h_⟩
       clear hKX hcX
       have hneX : ∀ w_, (binOp .neq 138 (.slice (some adX) l3.length c3) (.slice none 0 0)).run Try.prog w_ = .ok (.bool true) w_ := fun w_ => (run_neq_slice_nil_any w_ 138 4 (some adX) _ _ _ _ Try.underlying138).trans rfl
       cases hxi : l3.getD i.toNat false with
       | false =>
        rw [hxi] at hcX0 HCX
        have hv := freeTo_succ ([] : List Bool) l3 l1 i.toNat (by omega)
        simp only [freeAt, hxi, hwi, Bool.false_eq_true, if_false, if_true, reduceIte] at hv
        rw [← freeTo_get ([] : List Bool) l3 l1 i.toNat (by omega), set_getD] at hv
        have HV1 := As.mk hv; clear hv hwi hxi hi hi0
        go_wp2
        go_roundg (gk - 1)
        case measure => have := HJ.out; have := HII.out; omega
        case rel => exact ⟨i + 1, by rw [HWI.out], ⟨by have := HJ.out; omega, by have := HJ.out; have := HII.out; omega⟩, ⟨by rw [show (i + 1).toNat = i.toNat + 1 by have := HJ.out; omega, HV1.out]; exact Or.inr ⟨rfl, HF.out⟩⟩, HM⟩
       | true =>
        rw [hxi] at hcX0 HCX
        have hv := freeTo_succ ([] : List Bool) l3 l1 i.toNat (by omega)
        simp only [freeAt, hxi, hwi, Bool.false_eq_true, if_false, if_true, reduceIte] at hv
        have HV1 := As.mk hv; clear hv hwi hxi hi hi0
        go_wp2_with (first
         | ((with_reducible refine gate_store (t := 3) (p := 48) rfl ?_); go_must (refine store_event (t := 3) (p := 48) (v := ?vs2_nonetrue) (w1 := wr.setCell ⟨bF, i.toNat, none⟩ (.int .i64 (-1000000000))) ?hg ?ho ?hn ?hr ?_; (case ho => rfl); (case hg => rfl); (case hn => rfl); (case hr => first | (go_simp; done) | (go_simp; rfl)); intro w2 hw; have HF2 : As (IA w2 bF ((freeTo ([] : List Bool) l3 l1 i.toNat).set i.toNat (-1000000000))) := ⟨by rw [hw]; exact Arr.set HF.out i.toNat (by have := HII.out; have := HJ.out; have := HFL.out; omega) _⟩; have HM2 : As (Below w.heap.size w w2) := ⟨by rw [hw]; exact below_set HM.out HBF.out⟩; clear hw HF HM fA cA; have fA := HF2.out.free i.toNat; have cA : w2.cell? ⟨bF, i.toNat, none⟩ = some (.int .i64 (-1000000000)) := (by have h_ := Arr.cell HF2.out i.toNat (by have := HII.out; have := HJ.out; have := HFL.out; simp only [List.length_set]; omega); simpa using h_)))
         )
        go_roundg (gk - 1)
        case measure => have := HJ.out; have := HII.out; omega
        case rel => exact ⟨i + 1, by rw [HWI.out], ⟨by have := HJ.out; omega, by have := HJ.out; have := HII.out; omega⟩, ⟨by rw [show (i + 1).toNat = i.toNat + 1 by have := HJ.out; omega, HV1.out]; exact Or.inr ⟨rfl, HF2.out⟩⟩, HM2⟩
     ·obtain ⟨adW2, cW, eW, _, hKW, hcW⟩ := Kd.C_get (Kd.C_below HR2.out HM.out) false i hi0 (by omega)
      cases eW
      have hKW' : cW = [Value.bool (l2.getD i.toNat false)] := hKW
      subst hKW'
      have hcW0 : wr.cell? (adW.add i.toNat) = some (.bool (l2.getD i.toNat false)) := by have h_ := hcW 0 _ rfl; simpa [Kd.bool, Kd.scalar] using h_
      have pW : (i < (l2.length : Int)) = True := eq_true (by omega)
      clear hKW hcW
      have hneW : ∀ w_, (binOp .neq 138 (.slice (some adW) l2.length c2) (.slice none 0 0)).run Try.prog w_ = .ok (.bool true) w_ := fun w_ => (run_neq_slice_nil_any w_ 138 4 (some adW) _ _ _ _ Try.underlying138).trans rfl
      cases hwi : l2.getD i.toNat false with
      | false =>
       rw [hwi] at hcW0
       rcases HX.out with ⟨rfl, rfl⟩ | ⟨adX, rfl, hXl⟩
       ·have hxi : ([] : List Bool).getD i.toNat false = false := rfl
        have hneX : ∀ (w_ : World) (n_ : Nat), (binOp .neq 138 (.slice none n_ c3) (.slice none 0 0)).run Try.prog w_ = .ok (.bool false) w_ := fun w_ n_ => (run_neq_slice_nil_any w_ 138 4 none _ _ _ _ Try.underlying138).trans rfl
        have hv := freeTo_succ l2 ([] : List Bool) l1 i.toNat (by omega)
        simp only [freeAt, hxi, hwi, Bool.false_eq_true, if_false, if_true, reduceIte] at hv
        rw [← freeTo_get l2 ([] : List Bool) l1 i.toNat (by omega), set_getD] at hv
        have HV1 := As.mk hv; clear hv hwi hxi hi hi0
        go_wp2
        go_roundg (gk - 1)
        case measure => have := HJ.out; have := HII.out; omega
        case rel => exact ⟨i + 1, by rw [HWI.out], ⟨by have := HJ.out; omega, by have := HJ.out; have := HII.out; omega⟩, ⟨by rw [show (i + 1).toNat = i.toNat + 1 by have := HJ.out; omega, HV1.out]; exact Or.inr ⟨rfl, HF.out⟩⟩, HM⟩
       ·obtain ⟨adX2, cX, eX, _, hKX, hcX⟩ := Kd.C_get (Kd.C_below HR3.out HM.out) false i hi0 (by omega)
        cases eX
        have hKX' : cX = [Value.bool (l3.getD i.toNat false)] := hKX
        subst hKX'
        have hcX0 : wr.cell? (adX.add i.toNat) = some (.bool (l3.getD i.toNat false)) := by have h_ := hcX 0 _ rfl; simpa [Kd.bool, Kd.scalar] using h_
        have pX : (i < (l3.length : Int)) = True := eq_true (by omega)
        have HCX : As (∀ w', Below w.heap.size w w' → w'.cell? (adX.add i.toNat) = some (.bool (l3.getD i.toNat false))) := ⟨fun w' hb => by obtain ⟨a_, c_, e_, _, hk_, hc_⟩ := Kd.C_get (Kd.C_below HR3.out hb) false i hi0 (by omega); cases e_; have hk2_ : c_ = [Value.bool (l3.getD i.toNat false)] := hk_; subst hk2_; have h_ := hc_ 0 _ rfl; simpa [Kd.bool, Kd.scalar] using h_⟩
        clear hKX hcX
        have hneX : ∀ w_, (binOp .neq 138 (.slice (some adX) l3.length c3) (.slice none 0 0)).run Try.prog w_ = .ok (.bool true) w_ := fun w_ => (run_neq_slice_nil_any w_ 138 4 (some adX) _ _ _ _ Try.underlying138).trans rfl
        cases hxi : l3.getD i.toNat false with
        | false =>
         rw [hxi] at hcX0 HCX
         have hv := freeTo_succ l2 l3 l1 i.toNat (by omega)
         simp only [freeAt, hxi, hwi, Bool.false_eq_true, if_false, if_true, reduceIte] at hv
         rw [← freeTo_get l2 l3 l1 i.toNat (by omega), set_getD] at hv
         have HV1 := As.mk hv; clear hv hwi hxi hi hi0
         go_wp2
         go_roundg (gk - 1)
         case measure => have := HJ.out; have := HII.out; omega
         case rel => exact ⟨i + 1, by rw [HWI.out], ⟨by have := HJ.out; omega, by have := HJ.out; have := HII.out; omega⟩, ⟨by rw [show (i + 1).toNat = i.toNat + 1 by have := HJ.out; omega, HV1.out]; exact Or.inr ⟨rfl, HF.out⟩⟩, HM⟩
        | true =>
         rw [hxi] at hcX0 HCX
         have hv := freeTo_succ l2 l3 l1 i.toNat (by omega)
         simp only [freeAt, hxi, hwi, Bool.false_eq_true, if_false, if_true, reduceIte] at hv
         have HV1 := As.mk hv; clear hv hwi hxi hi hi0
         go_wp2_with (first
          | ((with_reducible refine gate_store (t := 3) (p := 48) rfl ?_); go_must (refine store_event (t := 3) (p := 48) (v := ?vs2_falsetrue) (w1 := wr.setCell ⟨bF, i.toNat, none⟩ (.int .i64 (-1000000000))) ?hg ?ho ?hn ?hr ?_; (case ho => rfl); (case hg => rfl); (case hn => rfl); (case hr => first | (go_simp; done) | (go_simp; rfl)); intro w2 hw; have HF2 : As (IA w2 bF ((freeTo l2 l3 l1 i.toNat).set i.toNat (-1000000000))) := ⟨by rw [hw]; exact Arr.set HF.out i.toNat (by have := HII.out; have := HJ.out; have := HFL.out; omega) _⟩; have HM2 : As (Below w.heap.size w w2) := ⟨by rw [hw]; exact below_set HM.out HBF.out⟩; clear hw HF HM fA cA; have fA := HF2.out.free i.toNat; have cA : w2.cell? ⟨bF, i.toNat, none⟩ = some (.int .i64 (-1000000000)) := (by have h_ := Arr.cell HF2.out i.toNat (by have := HII.out; have := HJ.out; have := HFL.out; simp only [List.length_set]; omega); simpa using h_)))
          )
         go_roundg (gk - 1)
         case measure => have := HJ.out; have := HII.out; omega
         case rel => exact ⟨i + 1, by rw [HWI.out], ⟨by have := HJ.out; omega, by have := HJ.out; have := HII.out; omega⟩, ⟨by rw [show (i + 1).toNat = i.toNat + 1 by have := HJ.out; omega, HV1.out]; exact Or.inr ⟨rfl, HF2.out⟩⟩, HM2⟩
      | true =>
       rw [hwi] at hcW0
       rcases HX.out with ⟨rfl, rfl⟩ | ⟨adX, rfl, hXl⟩
       ·have hxi : ([] : List Bool).getD i.toNat false = false := rfl
        have hneX : ∀ (w_ : World) (n_ : Nat), (binOp .neq 138 (.slice none n_ c3) (.slice none 0 0)).run Try.prog w_ = .ok (.bool false) w_ := fun w_ n_ => (run_neq_slice_nil_any w_ 138 4 none _ _ _ _ Try.underlying138).trans rfl
        have hv := freeTo_succ l2 ([] : List Bool) l1 i.toNat (by omega)
        simp only [freeAt, hxi, hwi, Bool.false_eq_true, if_false, if_true, reduceIte] at hv
        have HV1 := As.mk hv; clear hv hwi hxi hi hi0
        go_wp2_with (first
         | ((with_reducible refine gate_store (t := 3) (p := 37) rfl ?_); go_must (refine store_event (t := 3) (p := 37) (v := ?vs2_truenone) (w1 := wr.setCell ⟨bF, i.toNat, none⟩ (.int .i64 (0))) ?hg ?ho ?hn ?hr ?_; (case ho => rfl); (case hg => rfl); (case hn => rfl); (case hr => first | (go_simp; done) | (go_simp; rfl)); intro w2 hw; have HF2 : As (IA w2 bF ((freeTo l2 ([] : List Bool) l1 i.toNat).set i.toNat (0))) := ⟨by rw [hw]; exact Arr.set HF.out i.toNat (by have := HII.out; have := HJ.out; have := HFL.out; omega) _⟩; have HM2 : As (Below w.heap.size w w2) := ⟨by rw [hw]; exact below_set HM.out HBF.out⟩; clear hw HF HM fA cA; have fA := HF2.out.free i.toNat; have cA : w2.cell? ⟨bF, i.toNat, none⟩ = some (.int .i64 (0)) := (by have h_ := Arr.cell HF2.out i.toNat (by have := HII.out; have := HJ.out; have := HFL.out; simp only [List.length_set]; omega); simpa using h_)))
         )
        go_roundg (gk - 1)
        case measure => have := HJ.out; have := HII.out; omega
        case rel => exact ⟨i + 1, by rw [HWI.out], ⟨by have := HJ.out; omega, by have := HJ.out; have := HII.out; omega⟩, ⟨by rw [show (i + 1).toNat = i.toNat + 1 by have := HJ.out; omega, HV1.out]; exact Or.inr ⟨rfl, HF2.out⟩⟩, HM2⟩
       ·obtain ⟨adX2, cX, eX, _, hKX, hcX⟩ := Kd.C_get (Kd.C_below HR3.out HM.out) false i hi0 (by omega)
        cases eX
        have hKX' : cX = [Value.bool (l3.getD i.toNat false)] := hKX
        subst hKX'
        have hcX0 : wr.cell? (adX.add i.toNat) = some (.bool (l3.getD i.toNat false)) := by have h_ := hcX 0 _ rfl; simpa [Kd.bool, Kd.scalar] using h_
        have pX : (i < (l3.length : Int)) = True := eq_true (by omega)
        have HCX : As (∀ w', Below w.heap.size w w' → w'.cell? (adX.add i.toNat) = some (.bool (l3.getD i.toNat false))) := ⟨fun w' hb => by obtain ⟨a_, c_, e_, _, hk_, hc_⟩ := Kd.C_get (Kd.C_below HR3.out hb) false i hi0 (by omega); cases e_; have hk2_ : c_ = [Value.bool (l3.getD i.toNat false)] := hk_; subst hk2_; have h_ := hc_ 0 _ rfl; simpa [Kd.bool, Kd.scalar] using h_⟩
        clear hKX hcX
        have hneX : ∀ w_, (binOp .neq 138 (.slice (some adX) l3.length c3) (.slice none 0 0)).run Try.prog w_ = .ok (.bool true) w_ := fun w_ => (run_neq_slice_nil_any w_ 138 4 (some adX) _ _ _ _ Try.underlying138).trans rfl
        cases hxi : l3.getD i.toNat false with
        | false =>
         rw [hxi] at hcX0 HCX
         have hv := freeTo_succ l2 l3 l1 i.toNat (by omega)
         simp only [freeAt, hxi, hwi, Bool.false_eq_true, if_false, if_true, reduceIte] at hv
         have HV1 := As.mk hv; clear hv hwi hxi hi hi0
         go_wp2_with (first
          | ((with_reducible refine gate_store (t := 3) (p := 37) rfl ?_); go_must (refine store_event (t := 3) (p := 37) (v := ?vs2_truefalse) (w1 := wr.setCell ⟨bF, i.toNat, none⟩ (.int .i64 (0))) ?hg ?ho ?hn ?hr ?_; (case ho => rfl); (case hg => rfl); (case hn => rfl); (case hr => first | (go_simp; done) | (go_simp; rfl)); intro w2 hw; have HF2 : As (IA w2 bF ((freeTo l2 l3 l1 i.toNat).set i.toNat (0))) := ⟨by rw [hw]; exact Arr.set HF.out i.toNat (by have := HII.out; have := HJ.out; have := HFL.out; omega) _⟩; have HM2 : As (Below w.heap.size w w2) := ⟨by rw [hw]; exact below_set HM.out HBF.out⟩; clear hw HF HM fA cA hcX0; have hcX0 := HCX.out w2 HM2.out; have fA := HF2.out.free i.toNat; have cA : w2.cell? ⟨bF, i.toNat, none⟩ = some (.int .i64 (0)) := (by have h_ := Arr.cell HF2.out i.toNat (by have := HII.out; have := HJ.out; have := HFL.out; simp only [List.length_set]; omega); simpa using h_)))
          )
         go_roundg (gk - 1)
         case measure => have := HJ.out; have := HII.out; omega
         case rel => exact ⟨i + 1, by rw [HWI.out], ⟨by have := HJ.out; omega, by have := HJ.out; have := HII.out; omega⟩, ⟨by rw [show (i + 1).toNat = i.toNat + 1 by have := HJ.out; omega, HV1.out]; exact Or.inr ⟨rfl, HF2.out⟩⟩, HM2⟩
        | true =>
         rw [hxi] at hcX0 HCX
         have hv := freeTo_succ l2 l3 l1 i.toNat (by omega)
         simp only [freeAt, hxi, hwi, Bool.false_eq_true, if_false, if_true, reduceIte] at hv
         have HV1 := As.mk hv; clear hv hwi hxi hi hi0
         go_wp2_with (first
          | ((with_reducible refine gate_store (t := 3) (p := 37) rfl ?_); go_must (refine store_event (t := 3) (p := 37) (v := ?vs2_truetrue) (w1 := wr.setCell ⟨bF, i.toNat, none⟩ (.int .i64 (0))) ?hg ?ho ?hn ?hr ?_; (case ho => rfl); (case hg => rfl); (case hn => rfl); (case hr => first | (go_simp; done) | (go_simp; rfl)); intro w2 hw; have HF2 : As (IA w2 bF ((freeTo l2 l3 l1 i.toNat).set i.toNat (0))) := ⟨by rw [hw]; exact Arr.set HF.out i.toNat (by have := HII.out; have := HJ.out; have := HFL.out; omega) _⟩; have HM2 : As (Below w.heap.size w w2) := ⟨by rw [hw]; exact below_set HM.out HBF.out⟩; clear hw HF HM fA cA hcX0; have hcX0 := HCX.out w2 HM2.out; have fA := HF2.out.free i.toNat; have cA : w2.cell? ⟨bF, i.toNat, none⟩ = some (.int .i64 (0)) := (by have h_ := Arr.cell HF2.out i.toNat (by have := HII.out; have := HJ.out; have := HFL.out; simp only [List.length_set]; omega); simpa using h_)))
          | ((with_reducible refine gate_store (t := 3) (p := 48) rfl ?_); go_must (refine store_event (t := 3) (p := 48) (v := ?vs3_truetrue) (w1 := w2.setCell ⟨bF, i.toNat, none⟩ (.int .i64 (-1000000000))) ?hg ?ho ?hn ?hr ?_; (case ho => rfl); (case hg => rfl); (case hn => rfl); (case hr => first | (go_simp; done) | (go_simp; rfl)); intro w3 hw; have HF3 : As (IA w3 bF (((freeTo l2 l3 l1 i.toNat).set i.toNat (0)).set i.toNat (-1000000000))) := ⟨by rw [hw]; exact Arr.set HF2.out i.toNat (by have := HII.out; have := HJ.out; have := HFL.out; simp only [List.length_set]; omega) _⟩; have HM3 : As (Below w.heap.size w w3) := ⟨by rw [hw]; exact below_set HM2.out HBF.out⟩; clear hw HF2 HM2 fA cA; have fA := HF3.out.free i.toNat; have cA : w3.cell? ⟨bF, i.toNat, none⟩ = some (.int .i64 (-1000000000)) := (by have h_ := Arr.cell HF3.out i.toNat (by have := HII.out; have := HJ.out; have := HFL.out; simp only [List.length_set]; omega); simpa using h_)))
          )
         go_roundg (gk - 1)
         case measure => have := HJ.out; have := HII.out; omega
         case rel => exact ⟨i + 1, by rw [HWI.out], ⟨by have := HJ.out; omega, by have := HJ.out; have := HII.out; omega⟩, ⟨by rw [show (i + 1).toNat = i.toNat + 1 by have := HJ.out; omega, HV1.out]; have h_ := HF3.out; rw [List.set_set] at h_; exact .inr ⟨rfl, h_⟩⟩, HM3⟩
    ·have ci : decide (i < (l1.length : Int)) = false := decide_eq_false hi
     have HLA2 : As (LA wr AF bF (freeL l2 l3 l1)) := ⟨by
      have h_ := HLA.out
      rw [show i.toNat = l1.length by have := HJ.out; omega, freeTo_all] at h_
      exact h_⟩
     clear hi HLA
     have HCfr : As (Kd.C KI wr AF (freeL l2 l3 l1).length (freeL l2 l3 l1)) := ⟨Kd.F_now (HLA2.out.F (by rw [freeL_len]; have := HL1.out; omega))⟩
     have HC1 := As.mk (impl_pitNetwork.calls k A0 c0 l0 AF cF (freeL l2 l3 l1) n pl wr (Kd.C_below HR0.out HM.out) hc0 HCfr.out (by rw [freeL_len]; exact HCF.out) HPIT.out)
     rw [freeL_len] at HC1
     obtain ⟨i4, hi4, hz4⟩ := Option.map_eq_some_iff.1 info4
     simp only [Prod.mk.injEq] at hz4
     have hwn : wrap64 ((n : Int) - 1) = (n : Int) - 1 := by have := HPN.out; unfold wrap64; omega
     have HWN : As (1 ≤ wrap64 ((n : Int) - 1) ∧ wrap64 ((n : Int) - 1) ≤ (n : Int) ∧ (wrap64 ((n : Int) - 1)).toNat = n - 1) := ⟨by rw [hwn]; have := HPN.out; omega, by rw [hwn]; omega, by rw [hwn]; omega⟩
     have HK := As.mk (fun (b : Nat) => cut_mid (P := Try.prog) 138 4 .i64 .i64 Try.underlying138 hi4 1 hz4.2.1 (some ⟨b, 0, none⟩) n n 1 (wrap64 ((n : Int) - 1)) (by decide) HWN.out.1 HWN.out.2.1 (Nat.le_refl _))
     clear hi4 hz4 hwn
     clear HCfr HLA2
     go_wp2_with (first
      | ((with_reducible refine gate_callee (f := 141) rfl ?_); go_must (refine goesL_ (some 53) rfl rfl Try.func141 (by kernel_rfl) rfl #[.slice A0 l0.length c0, .slice AF l1.length cF] rfl (by (try simp only [List.map_toArray, List.map_cons, List.map_nil]); rfl) ?_; refine HC1.out.mono ?_; rintro e_ w3 ⟨vP, rfl, hP, hB3⟩; obtain ⟨AP, cP, eP⟩ := Kd.R_slice hP; subst eP; refine ⟨_, rfl, ?_⟩; have hPr := Kd.R_reads' hP; have HC2 := As.mk (newResidual_calls n AP cP pl w3 E tt left hPr.2.2 hPr.2.1 HNET.out); have HM3 : As (Below w.heap.size w w3) := ⟨below_then HM.out HM.out.size hB3⟩; clear hP hPr hB3 HC1 HM))
      | ((with_reducible refine gate_callee (f := 142) rfl ?_); go_must (refine goesL_ (some 58) rfl rfl Try.func142 (by kernel_rfl) rfl #[.int .i64 n, .slice AP pl.length cP] rfl (by (try simp only [List.map_toArray, List.map_cons, List.map_nil]); rfl) ?_; refine HC2.out.mono ?_; rintro e_ w4 ⟨g, bE, cE, vT, vL, rfl, hI, hEn⟩; refine ⟨_, rfl, ?_⟩; obtain ⟨AT, AL, cT, cL, bL, ok, hS, hbL, hgg⟩ := hI.irun hEn (by have := net_left HNET.out; simp at this; omega); have HM4 : As (Below w.heap.size w w4) := ⟨below_then HM3.out HM3.out.size hI.mov⟩; have HBL : As (w.heap.size ≤ bL ∧ w.heap.size ≤ g) := ⟨Nat.le_trans HM3.out.size hbL, Nat.le_trans HM3.out.size hgg⟩; have HEN := As.mk hEn; have HC3 := As.mk (run_calls k g bE cE AT AL cT cL bL E tt left left.length ok (.slice none 0 0) (.slice none 0 0) w4 rs left2 hS HRUN.out); clear hI hEn hS hbL hgg HC2 HM3))
      | ((with_reducible refine gate_callee (f := 143) rfl ?_); go_must (refine goesL_ (some 60) rfl rfl Try.func143 (by kernel_rfl) rfl #[.pointer (some ⟨g, 0, none⟩)] rfl (by (try simp only [List.map_toArray, List.map_cons, List.map_nil]); rfl) ?_; refine HC3.out.mono ?_; rintro e_ w5 ⟨vV, vN, rfl, hS⟩; refine ⟨_, rfl, ?_⟩; have HC4 := As.mk (hS.levels HFS.out); have HM5 : As (Below w.heap.size w w5) := ⟨hS.mov.below HM4.out (fun k_ hk => hk.elim (fun e_ => by rw [e_]; exact HBL.out.2) (fun e_ => by rw [e_]; exact HBL.out.1))⟩; clear hS HC3 HM4))
      | ((with_reducible refine gate_callee (f := 144) rfl ?_); go_must (refine goesL_ (some 62) rfl rfl Try.func144 (by kernel_rfl) rfl #[.pointer (some ⟨g, 0, none⟩)] rfl (by (try simp only [List.map_toArray, List.map_cons, List.map_nil]); rfl) ?_; refine HC4.out.mono ?_; rintro e_ w6 ⟨bI, bV, rfl, _, _, hI6, _, lI, _, gbI, hmov⟩; refine ⟨_, rfl, ?_⟩; have HI6 := As.mk hI6; have HLI : As (I.length = n) := ⟨lI.trans HEN.out⟩; have HGI : As (w.heap.size ≤ bI) := ⟨Nat.le_trans HM5.out.size gbI⟩; have HM6 : As (Below w.heap.size w w6) := ⟨hmov.below HM5.out (fun k_ hk => by rw [hk]; exact HBL.out.2)⟩; rw [HEN.out]; have kc := HK.out bI; obtain ⟨A17, hA17⟩ : ∃ A, A = (if n = (1 : Int).toNat then some (⟨bI, 0, none⟩ : Addr) else (some (⟨bI, 0, none⟩ : Addr)).map (·.add ((1 : Int).toNat * 1))) := ⟨_, rfl⟩; rw [← hA17, HWN.out.2.2] at kc; have HA17 := As.mk hA17; clear hA17 hI6 lI gbI hmov HC4 HM5 HK))
      )
     have hA17 : A17 = some ⟨bI, 1, none⟩ := by
      rw [HA17.out, if_neg (by have := HPN.out; show ¬ n = 1; omega)]
      rfl
     subst hA17
     have e2 : n - 1 - 1 = n - 2 := by omega
     have HN2 : As (((I.drop 1).take (n - 2)).length = n - 2) := ⟨by have := HLI.out; have := HPN.out; simp; omega⟩
     clear kc HA17
     go_loopg [73] (n - 2) (fun kq v73 w' => ∃ (i : Int) (J : List Bool), v73 = .int .i64 i ∧ As (0 ≤ i ∧ i + (kq : Int) = ((n - 2 : Nat) : Int)) ∧ As (J.length = n ∧ (J.drop 1).take (n - 2) = outTo l2 ((I.drop 1).take (n - 2)) i.toNat) ∧ As (ArrN Value.bool 4 w' bI J) ∧ As (Below w.heap.size w w'))
     case atStart => exact ⟨0, I, rfl, ⟨Int.le_refl _, by omega⟩, ⟨HLI.out, by rw [show (0 : Int).toNat = 0 from rfl, outTo_zero]⟩, HI6, HM6⟩
     case round =>
      clear HI6 HM6
      obtain ⟨i, J, rfl, HJ, HJL, HA, HM⟩ := hrel
      by_cases hi : i < ((n - 2 : Nat) : Int)
      ·have hi0 : 0 ≤ i := HJ.out.1
       have ci : decide (i < ((n - 2 : Nat) : Int)) = true := decide_eq_true hi
       have HII := As.mk hi
       have hlt : i.toNat < ((I.drop 1).take (n - 2)).length := by rw [HN2.out]; omega
       obtain ⟨b0, hb0⟩ : ∃ b0, b0 = ((I.drop 1).take (n - 2))[i.toNat] := ⟨_, rfl⟩
       have hg1 : ((J.drop 1).take (n - 2))[i.toNat]? = some b0 := by rw [HJL.out.2, hb0]; exact outTo_get _ _ _ hlt
       have hg2 : J[1 + i.toNat]? = some b0 := by rw [List.getElem?_take, if_pos (by omega), List.getElem?_drop] at hg1; exact hg1
       have hJ1 : 1 + i.toNat < J.length := by have := HJL.out.1; omega
       have cA : wr.cell? ⟨bI, 1 + i.toNat, none⟩ = some (.bool b0) := by
        have h_ := HA.out.arr.cell (1 + i.toNat) hJ1
        rw [List.getElem?_eq_getElem hJ1] at hg2
        injection hg2 with hg2
        rw [hg2] at h_
        exact h_
       have fA := HA.out.free (1 + i.toNat)
       have hs0 := outTo_succ l2 ((I.drop 1).take (n - 2)) i.toNat hlt
       rw [← hb0] at hs0
       have HWI : As (wrap64 (i + 1) = i + 1) := ⟨by have := HPN.out; unfold wrap64; omega⟩
       have p0 := eq_true hi0
       have p1 := eq_true hi
       rw [e2]
       cases b0 with
       | true =>
        rw [Bool.true_or] at hs0
        have HS := As.mk hs0
        clear hs0 hb0 hg1 hg2 hlt hJ1 hi hi0
        go_wp2_with (first
         | ((with_reducible refine gate_store (t := 4) (p := 92) rfl ?_); go_must (refine store_event (t := 4) (p := 92) (v := ?vba) (w1 := wr.setCell ⟨bI, 1 + i.toNat, none⟩ (.bool true)) ?hg ?ho ?hn ?hr ?_; (case ho => rfl); (case hg => rfl); (case hn => rfl); (case hr => first | (go_simp; done) | (go_simp; rfl)); intro w8 hw; have HA8 : As (ArrN Value.bool 4 w8 bI (J.set (1 + i.toNat) true)) := ⟨by rw [hw]; exact HA.out.set (1 + i.toNat) (by have := HJL.out.1; have := HII.out; have := HJ.out; omega) _⟩; have HM8 : As (Below w.heap.size w w8) := ⟨by rw [hw]; exact below_set HM.out HGI.out⟩; clear hw HA HM fA cA))
         )
        go_roundg (gk - 1)
        case measure => have := HJ.out; have := HII.out; omega
        case rel => exact ⟨i + 1, J.set (1 + i.toNat) true, by rw [HWI.out], ⟨by have := HJ.out; omega, by have := HJ.out; have := HII.out; omega⟩, ⟨by rw [List.length_set]; exact HJL.out.1, by rw [show (i + 1).toNat = i.toNat + 1 by have := HJ.out; omega, HS.out, ← HJL.out.2, List.drop_set, if_neg (by omega), List.take_set, Nat.add_sub_cancel_left]⟩, HA8, HM8⟩
       | false =>
        rw [Bool.false_or] at hs0
        rcases HW.out with ⟨rfl, rfl⟩ | ⟨adW, rfl, hWl⟩
        ·have hneW : ∀ (w_ : World) (n_ : Nat), (binOp .neq 138 (.slice none n_ c2) (.slice none 0 0)).run Try.prog w_ = .ok (.bool false) w_ := fun w_ n_ => (run_neq_slice_nil_any w_ 138 4 none _ _ _ _ Try.underlying138).trans rfl
         rw [show ([] : List Bool).getD i.toNat false = false from rfl] at hs0
         have HS := As.mk hs0
         clear hs0 hb0 hg1 hg2 hlt hJ1 hi hi0
         go_wp2_with (first
          | ((with_reducible refine gate_store (t := 4) (p := 92) rfl ?_); go_must (refine store_event (t := 4) (p := 92) (v := ?vbb) (w1 := wr.setCell ⟨bI, 1 + i.toNat, none⟩ (.bool false)) ?hg ?ho ?hn ?hr ?_; (case ho => rfl); (case hg => rfl); (case hn => rfl); (case hr => first | (go_simp; done) | (go_simp; rfl)); intro w8 hw; have HA8 : As (ArrN Value.bool 4 w8 bI (J.set (1 + i.toNat) false)) := ⟨by rw [hw]; exact HA.out.set (1 + i.toNat) (by have := HJL.out.1; have := HII.out; have := HJ.out; omega) _⟩; have HM8 : As (Below w.heap.size w w8) := ⟨by rw [hw]; exact below_set HM.out HGI.out⟩; clear hw HA HM fA cA))
          )
         go_roundg (gk - 1)
         case measure => have := HJ.out; have := HII.out; omega
         case rel => exact ⟨i + 1, J.set (1 + i.toNat) false, by rw [HWI.out], ⟨by have := HJ.out; omega, by have := HJ.out; have := HII.out; omega⟩, ⟨by rw [List.length_set]; exact HJL.out.1, by rw [show (i + 1).toNat = i.toNat + 1 by have := HJ.out; omega, HS.out, ← HJL.out.2, List.drop_set, if_neg (by omega), List.take_set, Nat.add_sub_cancel_left]⟩, HA8, HM8⟩
        ·have hl2 : i < (l2.length : Int) := by have h_ := HPN.out.2.2.resolve_left (fun e => by have := HA2.out e; cases this); have := HPN.out.1; omega
         have hneW : ∀ w_, (binOp .neq 138 (.slice (some adW) l2.length c2) (.slice none 0 0)).run Try.prog w_ = .ok (.bool true) w_ := fun w_ => (run_neq_slice_nil_any w_ 138 4 (some adW) _ _ _ _ Try.underlying138).trans rfl
         have hcW0 : wr.cell? (adW.add i.toNat) = some (.bool (l2.getD i.toNat false)) := by
          obtain ⟨a_, c_, e_, _, hk_, hc_⟩ := Kd.C_get (Kd.C_below HR2.out HM.out) false i hi0 hl2
          cases e_
          have hk2_ : c_ = [Value.bool (l2.getD i.toNat false)] := hk_
          subst hk2_
          have h_ := hc_ 0 _ rfl
          simpa [Kd.bool, Kd.scalar] using h_
         have pW : (i < (l2.length : Int)) = True := eq_true hl2
         cases hwi : l2.getD i.toNat false with
         | false =>
          rw [hwi] at hcW0 hs0
          have HS := As.mk hs0
          clear hs0 hb0 hg1 hg2 hlt hJ1 hi hi0 hwi hl2
          go_wp2_with (first
           | ((with_reducible refine gate_store (t := 4) (p := 92) rfl ?_); go_must (refine store_event (t := 4) (p := 92) (v := ?vbc) (w1 := wr.setCell ⟨bI, 1 + i.toNat, none⟩ (.bool false)) ?hg ?ho ?hn ?hr ?_; (case ho => rfl); (case hg => rfl); (case hn => rfl); (case hr => first | (go_simp; done) | (go_simp; rfl)); intro w8 hw; have HA8 : As (ArrN Value.bool 4 w8 bI (J.set (1 + i.toNat) false)) := ⟨by rw [hw]; exact HA.out.set (1 + i.toNat) (by have := HJL.out.1; have := HII.out; have := HJ.out; omega) _⟩; have HM8 : As (Below w.heap.size w w8) := ⟨by rw [hw]; exact below_set HM.out HGI.out⟩; clear hw HA HM fA cA))
           )
          go_roundg (gk - 1)
          case measure => have := HJ.out; have := HII.out; omega
          case rel => exact ⟨i + 1, J.set (1 + i.toNat) false, by rw [HWI.out], ⟨by have := HJ.out; omega, by have := HJ.out; have := HII.out; omega⟩, ⟨by rw [List.length_set]; exact HJL.out.1, by rw [show (i + 1).toNat = i.toNat + 1 by have := HJ.out; omega, HS.out, ← HJL.out.2, List.drop_set, if_neg (by omega), List.take_set, Nat.add_sub_cancel_left]⟩, HA8, HM8⟩
         | true =>
          rw [hwi] at hcW0 hs0
          have HS := As.mk hs0
          clear hs0 hb0 hg1 hg2 hlt hJ1 hi hi0 hwi hl2
          go_wp2_with (first
           | ((with_reducible refine gate_store (t := 4) (p := 92) rfl ?_); go_must (refine store_event (t := 4) (p := 92) (v := ?vbd) (w1 := wr.setCell ⟨bI, 1 + i.toNat, none⟩ (.bool true)) ?hg ?ho ?hn ?hr ?_; (case ho => rfl); (case hg => rfl); (case hn => rfl); (case hr => first | (go_simp; done) | (go_simp; rfl)); intro w8 hw; have HA8 : As (ArrN Value.bool 4 w8 bI (J.set (1 + i.toNat) true)) := ⟨by rw [hw]; exact HA.out.set (1 + i.toNat) (by have := HJL.out.1; have := HII.out; have := HJ.out; omega) _⟩; have HM8 : As (Below w.heap.size w w8) := ⟨by rw [hw]; exact below_set HM.out HGI.out⟩; clear hw HA HM fA cA))
           )
          go_roundg (gk - 1)
          case measure => have := HJ.out; have := HII.out; omega
          case rel => exact ⟨i + 1, J.set (1 + i.toNat) true, by rw [HWI.out], ⟨by have := HJ.out; omega, by have := HJ.out; have := HII.out; omega⟩, ⟨by rw [List.length_set]; exact HJL.out.1, by rw [show (i + 1).toNat = i.toNat + 1 by have := HJ.out; omega, HS.out, ← HJL.out.2, List.drop_set, if_neg (by omega), List.take_set, Nat.add_sub_cancel_left]⟩, HA8, HM8⟩
      ·have ci : decide (i < ((n - 2 : Nat) : Int)) = false := decide_eq_false hi
       have HL3 : As ((J.drop 1).take (n - 2) = outL l2 ((I.drop 1).take (n - 2))) := ⟨by
        rw [HJL.out.2, show i.toNat = ((I.drop 1).take (n - 2)).length by rw [HN2.out]; have := HJ.out; omega]
        exact outTo_all _ _⟩
       clear hi
       rw [e2]
       go_wp2
       go_ret
       refine ⟨_, rfl, ?_, HM.out⟩
       rw [← HL3.out]
       obtain ⟨cur, h1, h2⟩ := HA.out
       have hsz : cur.size = n := by have := congrArg List.length h2; simp at this; rw [this]; exact HJL.out.1
       refine ⟨fun _ _ => trivial, (((J.drop 1).take (n - 2)).map Value.bool), ⟨by simp [Kd.bool, Kd.scalar], .inr ⟨bI, 1, n - 1, cur, ?_, HGI.out, h1, ?_, ?_, ?_, ?_⟩⟩, ?_⟩
       ·rw [show ((J.drop 1).take (n - 2)).length = n - 2 by have := HJL.out.1; have := HPN.out; simp; omega]; rfl
       ·rw [show ((J.drop 1).take (n - 2)).length = n - 2 by have := HJL.out.1; have := HPN.out; simp; omega]; omega
       ·have := HPN.out; simp only [maxLen]; omega
       ·rw [hsz]; have := HPN.out; show n = (1 + (n - 1)) * 1; omega
       ·rw [show ((J.drop 1).take (n - 2)).length = n - 2 by have := HJL.out.1; have := HPN.out; simp; omega, h2]
        simp [Kd.bool, Kd.scalar, List.map_take, List.map_drop]
       ·refine ⟨by simp [Kd.bool, Kd.scalar], fun j p hj => ?_⟩
        have h3 : ((((J.drop 1).take (n - 2)).map Value.bool).drop (j * 1)).take 1 = [Value.bool p] := by
         rw [Nat.mul_one]
         have h4 : (((J.drop 1).take (n - 2)).map Value.bool)[j]? = some (Value.bool p) := by rw [List.getElem?_map, hj]; rfl
         obtain ⟨h5, h6⟩ := List.getElem?_eq_some_iff.1 h4
         rw [List.drop_eq_getElem_cons h5, List.take_succ_cons, List.take_zero, h6]
        exact h3
  ·rw [if_neg hpn] at h
   cases h
 ·rw [if_neg hg] at h
  cases h
end Go.Proofs.Ytclpjlaielphfaa.Flow
end
