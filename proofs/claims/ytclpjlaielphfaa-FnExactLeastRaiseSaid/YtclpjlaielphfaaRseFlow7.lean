/- Used by the claim's last text. -/
import Derived.Test.YtclpjlaielphfaaRseFlow6
section
namespace Go.Proofs.Ytclpjlaielphfaa.Flow
open Go Go.RowKit Go.Proofs.YtclpjlaielphfaaW.PrintWords Go.Proofs.YtclpjlaielphfaaW.PrintLast Go.Proofs.YtclpjlaielphfaaW.PrintMore
set_option linter.unusedVariables false
set_option linter.unusedSimpArgs false
theorem fs_big {k : Nat} {E : List (List Int)} {tt left : List Int} {r : List Bool × List Int} (h : fs k E tt left = some r) : 0 < E.length ∧ E.length ≤ 1000000 := by
  unfold fs at h
  by_cases hn : 0 < E.length ∧ E.length ≤ 1000000
  · exact hn
  · rw [if_neg hn] at h
    cases h
theorem RunInv.levels {w w' : World} {g bE cE : Nat} {AT AL : Option Addr} {cT cL bL : Nat} {E : List (List Int)} {tt left : List Int} {m : Nat} {ok : Nat → Prop} {vV vN : Value}
    (h : RunInv w w' g bE cE AT AL cT cL bL E tt left m ok vV vN) {k : Nat} {I : List Bool} {V : List Int} (hf : fs k E tt left = some (I, V)) :
    Calls Try.prog 144 #[.pointer (some ⟨g, 0, none⟩)] w' (FsPost w' g bE cE AT AL cT cL E tt left vN I V) := by
  refine fromSource_calls k g bE cE AT AL cT cL E tt left vV vN (fun b => (ok b ∨ (m ≠ 0 ∧ b = bL)) ∧ b < w'.heap.size) w' I V h.hg (Kd.F_mono (Kd.F_bound h.fE) (fun _ hk => ⟨.inl hk.1, hk.2⟩)) (Kd.F_mono (Kd.F_bound h.fT) (fun _ hk => ⟨.inl hk.1, hk.2⟩)) ?_ ?_ hf
  · by_cases hm : m = 0
    · have hl : left = [] := List.length_eq_zero_iff.1 (by rw [h.lL]; exact hm)
      subst hl
      intro W' hW
      exact ⟨rfl, by simp, fun h => by simp at h⟩
    · exact Kd.F_mono (Kd.F_bound (h.hL.F (by rw [h.lL]; exact h.mm))) (fun _ hk => ⟨.inr ⟨hm, hk.1⟩, hk.2⟩)
  · rintro b ⟨h1, h2⟩
    refine ⟨h2, ?_⟩
    rcases h1 with h1 | ⟨h1, rfl⟩
    · exact (h.hok b h1).2
    · rcases h.hb with h0 | h0
      · exact absurd h0 h1
      · exact h0.2.1
def RunPost (w : World) (g bE cE : Nat) (AT AL : Option Addr) (cT cL bL : Nat) (E : List (List Int)) (tt : List Int) (m : Nat) (ok : Nat → Prop) (r : Int) (left : List Int) (e : Ending) (w' : World) : Prop :=
  ∃ vV vN, e = .returned (.int .i64 r) ∧ RunInv w w' g bE cE AT AL cT cL bL E tt left m ok vV vN
set_option maxHeartbeats 8000000 in
set_option maxRecDepth 100000 in
theorem run_calls (k : Nat) (g bE cE : Nat) (AT AL : Option Addr) (cT cL bL : Nat) (E : List (List Int)) (tt left : List Int) (m : Nat) (ok : Nat → Prop) (vV vN : Value) (w : World) (r : Int) (left' : List Int)
    (hI : RunInv w w g bE cE AT AL cT cL bL E tt left m ok vV vN) (h : runI E tt k 0 left = some (r, left')) :
    Calls Try.prog 143 #[.pointer (some ⟨g, 0, none⟩)] w (RunPost w g bE cE AT AL cT cL bL E tt m ok r left') := by
  have H := Aside0.mk h
  have HJ := Aside0.mk hI
  clear h hI
  go_enter Try.func143, Try.ntmps143
  go_wp2
  go_loopg [3] k (fun kq v3 w' => ∃ (sum1 : Int) (left1 : List Int) (vV1 vN1 : Value), v3 = .int .i64 sum1 ∧ Aside0 (runI E tt kq sum1 left1 = some (r, left')) ∧ Aside0 (RunInv w w' g bE cE AT AL cT cL bL E tt left1 m ok vV1 vN1))
  case atStart => exact ⟨0, left, vV, vN, rfl, H, HJ⟩
  case round =>
    clear H HJ
    obtain ⟨sum1, left1, vV1, vN1, rfl, H, HJ⟩ := hrel
    cases gk with
    | zero => exact absurd H.out (by simp [runI])
    | succ k1 =>
      have h := H.out
      simp only [runI] at h
      obtain ⟨⟨I, V⟩, hf, h⟩ := Option.bind_eq_some_iff.mp h
      replace h : (if inb (wrap64 ((E.length : Int) - 1)) I then (if rdB I (wrap64 ((E.length : Int) - 1)) = true then (phase E tt V 1152921504606846976 k1 sum1 left1 (List.replicate E.length 0)).bind fun r => runI E tt k1 r.1 r.2.1 else some (sum1, left1)) else none) = some (r, left') := h
      have HBG := Aside0.mk (fs_big hf)
      have HF := Aside0.mk hf
      by_cases hin : inb (wrap64 ((E.length : Int) - 1)) I
      · rw [if_pos hin] at h
        have c0 : wr.cell? ⟨g, 0, none⟩ = some (.slice (some ⟨bE, 0, none⟩) E.length cE) := blk_cell HJ.out.hg 0 _ rfl
        have HJ1 : Aside0 (RunInv w wr.drew g bE cE AT AL cT cL bL E tt left1 m ok vV1 vN1) := ⟨HJ.out.later (below_drew (Below.refl _ _))⟩
        have c0d : wr.drew.cell? ⟨g, 0, none⟩ = some (.slice (some ⟨bE, 0, none⟩) E.length cE) := blk_cell HJ1.out.hg 0 _ rfl
        have HIN := Aside0.mk hin
        obtain ⟨B, hB⟩ : ∃ B, B = rdB I (wrap64 ((E.length : Int) - 1)) := ⟨_, rfl⟩
        rw [← hB] at h
        have HBb := Aside0.mk hB
        have HC := Aside0.mk (HJ1.out.levels HF.out)
        have H1 := Aside0.mk h
        have p0 : (0 ≤ wrap64 ((E.length : Int) - 1)) = True := eq_true hin.1
        clear H hf h hB hin HJ
        go_wp2
        refine start_ (n := 10) (S := fun w' => w'.cell? ⟨g, 0, none⟩ = some (.slice (some ⟨bE, 0, none⟩) E.length cE)) (ds := []) #[false, false, false, false, false, false, false, false, false, false] (by kernel_rfl) rfl rfl (c0d) (fun hHeld => ?_)
        refine pure_ (i := 0) (N := some 5) (v := ?_) (a' := ?_) #[true, false, false, false, false, false, false, false, false, false] rfl rfl (by kernel_rfl) (fun _ _ _ h => h) (Or.inl ⟨by rfl, ?_⟩) ?_ ?_
        rotate_left
        · intro w'; go_simp; with_reducible rfl
        rotate_left
        · simp only [Act.put, List.setIfInBounds_toArray, List.set_cons_zero, List.set_cons_succ, i64_w, i32_w]; rfl
        refine pure_ (i := 2) (N := some 7) (v := ?_) (a' := ?_) #[true, false, true, false, false, false, false, false, false, false] rfl rfl (by kernel_rfl) (fun _ _ _ h => h) (Or.inl ⟨by rfl, ?_⟩) ?_ ?_
        rotate_left
        · intro w'; go_simp; with_reducible rfl
        rotate_left
        · simp only [Act.put, List.setIfInBounds_toArray, List.set_cons_zero, List.set_cons_succ, i64_w, i32_w]; rfl
        refine pure_ (i := 3) (N := some 8) (v := ?_) (a' := ?_) #[true, false, true, true, false, false, false, false, false, false] rfl rfl (by kernel_rfl) (fun _ _ _ h => h) (Or.inl ⟨by rfl, ?_⟩) ?_ ?_
        rotate_left
        · intro w'; go_simp; with_reducible rfl
        rotate_left
        · simp only [Act.put, List.setIfInBounds_toArray, List.set_cons_zero, List.set_cons_succ, i64_w, i32_w]; rfl
        refine pure_ (i := 4) (N := some 9) (v := ?_) (a' := ?_) #[true, false, true, true, true, false, false, false, false, false] rfl rfl (by kernel_rfl) (fun _ _ _ h => h) (Or.inl ⟨by rfl, ?_⟩) ?_ ?_
        rotate_left
        · intro w'; go_simp; with_reducible rfl
        rotate_left
        · simp only [Act.put, List.setIfInBounds_toArray, List.set_cons_zero, List.set_cons_succ, i64_w, i32_w]; rfl
        refine take_ (i := 5) (N := some 10) (v := ?_) (a' := ?_) #[true, false, true, true, true, true, false, false, false, false] rfl rfl (by kernel_rfl) (fun _ _ _ h => h) (Or.inl ⟨by rfl, ?_⟩) hHeld ?_ ?_
        rotate_left
        · intro w' s0; go_simp; with_reducible rfl
        rotate_left
        · simp only [Act.put, List.setIfInBounds_toArray, List.set_cons_zero, List.set_cons_succ, i64_w, i32_w]; rfl
        refine pure_ (i := 6) (N := some 11) (v := ?_) (a' := ?_) #[true, false, true, true, true, true, true, false, false, false] rfl rfl (by kernel_rfl) (fun _ _ _ h => h) (Or.inl ⟨by rfl, ?_⟩) ?_ ?_
        rotate_left
        · intro w'; go_simp; with_reducible rfl
        rotate_left
        · simp only [Act.put, List.setIfInBounds_toArray, List.set_cons_zero, List.set_cons_succ, i64_w, i32_w]; rfl
        refine pure_ (i := 7) (N := some 12) (v := ?_) (a' := ?_) #[true, false, true, true, true, true, true, true, false, false] rfl rfl (by kernel_rfl) (fun _ _ _ h => h) (Or.inl ⟨by rfl, ?_⟩) ?_ ?_
        rotate_left
        · intro w'; go_simp; with_reducible rfl
        rotate_left
        · simp only [Act.put, List.setIfInBounds_toArray, List.set_cons_zero, List.set_cons_succ, i64_w, i32_w]; rfl
        refine one_ (i := 1) (N := some 6) #[true, true, true, true, true, true, true, true, false, false] rfl rfl (by kernel_rfl) (by decide) (fun K hK => ?_)
        refine goes_ Try.func144 (by kernel_rfl) rfl #[.pointer (some ⟨g, 0, none⟩)] (by rfl) rfl rfl (by simp only [List.map_toArray, List.map_cons, List.map_nil]; rfl) ?_
        refine HC.out.mono ?_
        rintro e w2 ⟨bI, bV, rfl, hg', hV, hI, lV, lI, gbV, gbI, hmov⟩
        refine ⟨_, rfl, ?_⟩
        have cI : w2.cell? ⟨bI, (wrap64 ((E.length : Int) - 1)).toNat, none⟩ = some (.bool B) := by
          rw [HBb.out]
          exact BA_at hI.arr _ HIN.out.1 HIN.out.2
        have HJ2 := Aside0.mk (HJ1.out.levelled hg' hmov)
        have p1 : (wrap64 ((E.length : Int) - 1) < (E.length : Int)) = True := eq_true (by have h_ := HIN.out.2; rw [lI] at h_; exact h_)
        have HV := Aside0.mk hV
        have HLV := Aside0.mk lV
        have HGV := Aside0.mk gbV
        clear hg' hV hI lV lI gbV gbI hmov
        refine hK.out _ _ (blk_cell HJ2.out.hg 0 _ rfl) (fun hHeld => ?_)
        clear hK K
        refine norm_ (a' := ?_) ?_ ?_
        rotate_left
        · show Act.put _ (some 6) _ = _; simp only [Act.put, List.setIfInBounds_toArray, List.set_cons_zero, List.set_cons_succ, i64_w, i32_w]; rfl
        refine pure_ (i := 8) (N := some 13) (v := ?_) (a' := ?_) #[true, true, true, true, true, true, true, true, true, false] rfl rfl (by kernel_rfl) (fun _ _ _ h => h) (Or.inl ⟨by rfl, ?_⟩) ?_ ?_
        rotate_left
        · intro w'; go_simp; with_reducible rfl
        rotate_left
        · simp only [Act.put, List.setIfInBounds_toArray, List.set_cons_zero, List.set_cons_succ, i64_w, i32_w]; rfl
        refine one_ (i := 9) (N := some 14) #[true, true, true, true, true, true, true, true, true, true] rfl rfl (by kernel_rfl) (by decide) (fun K hK => ?_)
        refine value_ (w1 := w2) (v := .bool B) (by rfl) rfl ?_ ?_
        · go_simp
        refine hK.out _ _ (hHeld) (fun hHeld => ?_)
        clear hK K
        refine norm_ (a' := ?_) ?_ ?_
        rotate_left
        · show Act.put _ (some 14) _ = _; simp only [Act.put, List.setIfInBounds_toArray, List.set_cons_zero, List.set_cons_succ, i64_w, i32_w]; rfl
        refine done_ (by kernel_rfl) ?_
        clear c0 c0d cI p0 p1 hHeld
        cases B with
        | false =>
          have h := H1.out
          rw [if_neg (by decide)] at h
          simp only [Option.some.injEq, Prod.mk.injEq] at h
          obtain ⟨rfl, rfl⟩ := h
          go_wp2
          go_ret
          exact ⟨_, _, rfl, HJ2.out⟩
        | true =>
          have h := H1.out
          rw [if_pos rfl] at h
          obtain ⟨⟨sum2, left2, next2⟩, hp, h⟩ := Option.bind_eq_some_iff.mp h
          replace h : runI E tt k1 sum2 left2 = some (r, left') := h
          have HP := Aside0.mk hp
          have H3 := Aside0.mk h
          clear h hp H1
          have c0 : w2.cell? ⟨g, 0, none⟩ = some (.slice (some ⟨bE, 0, none⟩) E.length cE) := blk_cell HJ2.out.hg 0 _ rfl
          go_wp2_with (first
            | ((with_reducible refine gate_dst (N := 21) rfl ?_); go_must (refine ev_make (enc := Value.int .i64) (0 : Int) rfl (N := 21) rfl 23 3 _ _ rfl E.length rfl rfl Try.underlying23 8 info3 ⟨rfl, rfl⟩ (by have := HBG.out.2; omega) (by have := HBG.out.2; omega) ?_; intro w3 hA hb hs; have HA3 := Aside0.mk hA; have HJ3 := Aside0.mk (HJ2.out.later hb); have HV3 := Aside0.mk (HV.out.below hb); have HN3 : Aside0 (w.heap.size ≤ w2.heap.size ∧ bV < w2.heap.size) := ⟨HJ2.out.mov.size, HV.out.lt⟩; have f4 := blk_free HJ3.out.hg 4; have c4 := blk_cell HJ3.out.hg 4 _ rfl; clear hA hb hs c0 HJ2 HV))
            | ((with_reducible refine gate_store (t := 23) (p := 23) rfl ?_); go_must (refine store_event (t := 23) (p := 23) (v := ?v2) (w1 := w3.setCell ⟨g, 4, none⟩ (.slice (some ⟨w2.heap.size, 0, none⟩) E.length E.length)) ?hg ?ho ?hn ?hr ?_; (case ho => rfl); (case hg => rfl); (case hn => rfl); (case hr => first | (go_simp; done) | (go_simp; rfl)); intro w4 hw4; have HP4 : Aside0 (PhInv w w4 g bE cE AT AL cT cL bL E tt left1 m ok bV w2.heap.size V (List.replicate E.length 0)) := ⟨by rw [hw4]; exact ⟨HJ3.out.nexts _, HV3.out.far (by have := HGV.out; have := HJ3.out.glt; have := HJ1.out.mov.size; omega) _ _, HA3.out.far (by have := HJ3.out.glt; have := HN3.out.1; omega) _ _, HLV.out, by simp, by have := HGV.out; have := HJ1.out.mov.size; omega, HN3.out.1, by have := HN3.out.2; omega, HBG.out.2⟩⟩; clear hw4 HJ3 HA3 HV3 f4 c4))
            )
          clear HJ1 HGV HN3
          go_loopg [3] k1 (fun kq v3 w' => ∃ (sum3 : Int) (left3 next3 : List Int), v3 = .int .i64 sum3 ∧ Aside0 (phase E tt V 1152921504606846976 kq sum3 left3 next3 = some (sum2, left2, next2)) ∧ Aside0 (PhInv w w' g bE cE AT AL cT cL bL E tt left3 m ok bV w2.heap.size V next3))
          case atStart => exact ⟨sum1, left1, _, rfl, HP, HP4⟩
          case round =>
            clear HP HP4
            obtain ⟨sum3, left3, next3, rfl, HP, HP4⟩ := hrel
            cases gk with
            | zero => exact absurd HP.out (by simp [phase])
            | succ k2 =>
              have h := HP.out
              simp only [phase] at h
              obtain ⟨⟨s, left4, next4⟩, hq, h⟩ := Option.bind_eq_some_iff.mp h
              replace h : (if s = 0 then some (sum3, left4, next4) else phase E tt V 1152921504606846976 k2 (wrap64 (sum3 + s)) left4 next4) = some (sum2, left2, next2) := h
              have HC := Aside0.mk (HP4.out.push hq)
              by_cases hs : s = 0
              · rw [if_pos hs] at h
                simp only [Option.some.injEq, Prod.mk.injEq] at h
                obtain ⟨rfl, rfl, rfl⟩ := h
                have cs : (s == 0) = true := beq_iff_eq.mpr hs
                clear hq hs HP
                go_wp2_with (first
                  | ((with_reducible refine gate_callee (f := 157) rfl ?_); go_must (refine goesL_ (some 25) rfl rfl Try.func157 (by kernel_rfl) rfl #[.pointer (some ⟨g, 0, none⟩), .int .i64 0, .int .i64 1152921504606846976] rfl (by (try simp only [List.map_toArray, List.map_cons, List.map_nil]); rfl) ?_; refine HC.out.mono ?_; rintro e_ w5 ⟨rfl, hI⟩; refine ⟨_, rfl, ?_⟩; have HP5 := Aside0.mk hI; clear hI HC HP4))
                  )
                go_roundg k1
                case measure => omega
                case rel => exact ⟨_, _, _, _, rfl, H3, ⟨HP5.out.run⟩⟩
              · rw [if_neg hs] at h
                have cs : (s == 0) = false := beq_eq_false_iff_ne.mpr hs
                have H4 := Aside0.mk h
                clear hq hs HP h
                go_wp2_with (first
                  | ((with_reducible refine gate_callee (f := 157) rfl ?_); go_must (refine goesL_ (some 25) rfl rfl Try.func157 (by kernel_rfl) rfl #[.pointer (some ⟨g, 0, none⟩), .int .i64 0, .int .i64 1152921504606846976] rfl (by (try simp only [List.map_toArray, List.map_cons, List.map_nil]); rfl) ?_; refine HC.out.mono ?_; rintro e_ w5 ⟨rfl, hI⟩; refine ⟨_, rfl, ?_⟩; have HP5 := Aside0.mk hI; clear hI HC HP4))
                  )
                go_roundg k2
                case measure => omega
                case rel => exact ⟨_, _, _, rfl, H4, HP5⟩
      · rw [if_neg hin] at h
        cases h
end Go.Proofs.Ytclpjlaielphfaa.Flow
end
