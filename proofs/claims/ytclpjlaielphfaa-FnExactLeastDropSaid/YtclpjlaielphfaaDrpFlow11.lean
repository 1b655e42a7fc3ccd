/- Used by the claim's last text. -/
import Derived.Test.YtclpjlaielphfaaDrpFlow10
section
namespace Go.Proofs.Ytclpjlaielphfaa.Flow
open Go Go.RowKit Go.Proofs.YtclpjlaielphfaaW.PrintWords Go.Proofs.YtclpjlaielphfaaW.PrintLast Go.Proofs.YtclpjlaielphfaaW.PrintMore Go.Proofs.Ytclpjlaielphfaa.PF
set_option linter.unusedVariables false
set_option linter.unusedSimpArgs false
def StartPost (w : World) (n : Nat) (E : List (List Int)) (tt left : List Int) (e : Ending) (w' : World) : Prop :=
  ∃ (g bE cE : Nat) (vT vL : Value), e = .returned (.pointer (some ⟨g, 0, none⟩)) ∧ NetInv w w' g (fun vT vL => #[.int .i64 (n : Int), vT, vL, .slice (some ⟨bE, 0, none⟩) n cE]) 174 bE cE E tt left vT vL ∧ E.length = n
set_option maxHeartbeats 8000000 in
set_option maxRecDepth 100000 in
theorem mfStart_calls (n : Nat) (A1 : Option Addr) (c1 : Nat) (l : List S170) (w : World) (E : List (List Int)) (tt left : List Int)
    (hr1 : Kd.C k170 w A1 l.length l) (hc1 : l.length ≤ c1) (h : net n l = some (E, tt, left)) :
    Calls Try.prog 154 #[.int .i64 n, .slice A1 l.length c1] w (StartPost w n E tt left) := by
  unfold net at h
  by_cases hn : 0 < n ∧ n ≤ 1000000
  · rw [if_pos hn] at h
    have HN := Aside0.mk hn
    have HR1 := Aside0.mk hr1
    have H := Aside0.mk h
    clear hn hr1 h
    obtain ⟨i23, hi23, hz23⟩ : ∃ i, Try.prog.info? 23 = some i ∧ i.zero = some (.slice none 0 0) ∧ i.size = 1 ∧ i.bytes = 24 := by
      have h_ : (Try.prog.info? 23).map (fun i => (i.zero, i.size, i.bytes)) = some (some (.slice none 0 0), 1, 24) := by kernel_rfl
      obtain ⟨i, hi, hz⟩ := Option.map_eq_some_iff.1 h_
      simp only [Prod.mk.injEq] at hz
      exact ⟨i, hi, hz.1, hz.2.1, hz.2.2⟩
    have info23 : (Try.prog.info? 23).map (fun i => (i.zero, i.size, i.bytes)) = some (some (.slice none 0 0), 1, 24) := by kernel_rfl
    go_enter Try.func154, Try.ntmps154
    go_wp2_with (first
      | ((with_reducible refine gate_dst (N := 10) rfl ?_); go_must (refine Kd.S_make KR (w0 := w) w.heap.size 23 rfl (N := 10) rfl 22 _ _ rfl (n : Int) rfl rfl Try.underlying22 (.slice none 0 0) 24 info23 rfl (by decide) (by decide) [] (ok := fun _ => True) (okp := fun _ => False) ⟨_, rfl, Kd.R_nil _ _ _ _ _⟩ (fun _ hk => hk.elim) trivial (by omega) (by have := HN.out.2; omega) (Below.refl _ _) (Nat.le_refl _) ?_; intro v1 w1 hS hb hg_ hnew; obtain ⟨bE, cE, eE, hbE, hlt, hc⟩ := Kd.S_form hS (by have := HN.out.1; simp; omega); have hS1 := Aside0.mk hS; have hB1 := Aside0.mk hb; subst eE; clear hS hb hg_ hnew))
      )
    have HJ : Aside0 (NetInv w (w1.alloc (.cells #[.int .i64 (n : Int), .slice none 0 0, .slice none 0 0, .slice (some ⟨bE, 0, none⟩) n cE] 174)) w1.heap.size (fun vT vL => #[.int .i64 (n : Int), vT, vL, .slice (some ⟨bE, 0, none⟩) n cE]) 174 bE cE (List.replicate n []) [] [] (.slice none 0 0) (.slice none 0 0)) := ⟨{
      hg := heap_alloc_new w1 _
      hE := by
        have h_ := Kd.S_mono (ok' := fun k => some k ≠ (Value.slice none 0 0).ownBlock ∧ some k ≠ (Value.slice none 0 0).ownBlock) (Kd.S_alloc hS1.out (.cells #[.int .i64 (n : Int), .slice none 0 0, .slice none 0 0, .slice (some ⟨bE, 0, none⟩) n cE] 174)) (fun k _ => ⟨by simp [Value.ownBlock], by simp [Value.ownBlock]⟩)
        simpa using h_
      hT := Kd.R_nil _ _ _ _ _
      hL := Kd.R_nil _ _ _ _ _
      gg := hB1.out.size
      hty := by decide
      mov := below_then hB1.out hB1.out.size (below_alloc (Below.refl _ _) _) }⟩
    have HLn : Aside0 (l.length ≤ 9223372036854775807) := ⟨HR1.out.2.1⟩
    clear hS1 hB1 hbE hlt hc
    generalize w1.heap.size = g at *
    go_loopg [15] l.length (fun kq v15 w' => ∃ (es : List S170) (j : Int) (E1 : List (List Int)) (tt1 left1 : List Int) (vT vL : Value), v15 = .int .i64 j ∧ Aside0 (es.length = kq ∧ 0 ≤ j ∧ es = l.drop j.toNat ∧ j + (kq : Int) = (l.length : Int)) ∧ Aside0 (netFold es (E1, tt1, left1) = some (E, tt, left)) ∧ Aside0 (E1.length = n ∧ (tt1.length : Int) = 2 * j) ∧ Aside0 (NetInv w w' g (fun vT vL => #[.int .i64 (n : Int), vT, vL, .slice (some ⟨bE, 0, none⟩) n cE]) 174 bE cE E1 tt1 left1 vT vL))
    case atStart => exact ⟨l, 0, _, _, _, _, _, rfl, ⟨rfl, Int.le_refl _, rfl, by omega⟩, H, ⟨by simp, by simp⟩, HJ⟩
    case round =>
      clear H HJ
      obtain ⟨es, j, E1, tt1, left1, vT, vL, rfl, HL, H, HE1, HJ⟩ := hrel
      cases es with
      | nil =>
        have h := H.out
        simp only [netFold, Option.some.injEq, Prod.mk.injEq] at h
        obtain ⟨rfl, rfl, rfl⟩ := h
        have hj : ¬ j < (l.length : Int) := by have := HL.out; simp at this; omega
        have cj : decide (j < (l.length : Int)) = false := decide_eq_false hj
        clear hj
        go_wp2
        go_ret
        exact ⟨g, bE, cE, vT, vL, rfl, HJ.out, HE1.out.1⟩
      | cons e es =>
        obtain ⟨hkq, hj0, hes, hjl⟩ := HL.out
        have hj : j < (l.length : Int) := by simp at hkq; omega
        have cj : decide (j < (l.length : Int)) = true := decide_eq_true hj
        have h2 : l.drop j.toNat = l[j.toNat]'(by omega) :: l.drop (j.toNat + 1) := List.drop_eq_getElem_cons (by omega)
        rw [h2] at hes
        injection hes with h3 h4
        have he : rd_T170 l j = e := by rw [rd_T170, List.getD_eq_getElem?_getD, List.getElem?_eq_getElem (by omega), Option.getD_some, ← h3]
        have hes' : es = l.drop (j + 1).toNat := by rw [h4, show (j + 1).toNat = j.toNat + 1 by omega]
        have hwj : wrap64 (j + 1) = j + 1 := by have := HLn.out; unfold wrap64; omega
        have HL3 : Aside0 (es.length + 1 = gk ∧ 0 ≤ j + 1 ∧ es = l.drop (j + 1).toNat ∧ j + 1 + (es.length : Int) = (l.length : Int) ∧ wrap64 (j + 1) = j + 1) := ⟨by simpa using hkq, by omega, hes', by simp at hkq; omega, hwj⟩
        obtain ⟨ad, hA1, hx0, hx1, hx2⟩ := at_T170 (Kd.C_below HR1.out HJ.out.mov) j hj0 hj
        rw [he] at hx0 hx1 hx2
        subst hA1
        have h := H.out
        simp only [netFold] at h
        obtain ⟨⟨E2, tt2, left2⟩, hs, h⟩ := Option.bind_eq_some_iff.mp h
        unfold netStep at hs
        simp only at hs
        by_cases hg5 : (inb e.f0 E1 ∧ inb e.f1 E1) ∧ (rowAt E1 e.f0).length < 1000000 ∧ (rowAt (addE E1 e.f0 (tt1.length : Int)) e.f1).length < 1000000 ∧ tt1.length < 1000000 ∧ left1.length < 1000000
        · rw [if_pos hg5] at hs
          simp only [Option.some.injEq, Prod.mk.injEq] at hs
          obtain ⟨rfl, rfl, rfl⟩ := hs
          have H2 := Aside0.mk h
          have HG5 := Aside0.mk hg5
          have HX : Aside0 (wrap64 (2 * j) = (tt1.length : Int)) := ⟨by have h5_ := hg5.2.2.2.1; have h6_ := HE1.out.2; unfold wrap64; omega⟩
          have HX2 : Aside0 ((tt1.length : Int) + 2 = 2 * (j + 1)) := ⟨by have h6_ := HE1.out.2; omega⟩
          clear h hg5 hkq h2 h3 h4 he hes' hwj hjl HL H
          replace hj0 := eq_true hj0
          replace hj := eq_true hj
          go_wp2
          have HJ2 : Aside0 (NetInv w (wr.alloc (.cells #[.int .i64 e.f0, .int .i64 e.f1, .int .i64 e.f2] 170)) g (fun vT vL => #[.int .i64 (n : Int), vT, vL, .slice (some ⟨bE, 0, none⟩) n cE]) 174 bE cE E1 tt1 left1 vT vL) := ⟨HJ.out.later (below_alloc (Below.refl _ _) _)⟩
          have BX2 : Aside0 ((wr.alloc (.cells #[.int .i64 e.f0, .int .i64 e.f1, .int .i64 e.f2] 170)).heap[wr.heap.size]? = some (.cells #[.int .i64 e.f0, .int .i64 e.f1, .int .i64 e.f2] 170 (0, 0))) := ⟨heap_alloc_new wr _⟩
          have HNB : Aside0 (wr.heap.size ≠ bE) := ⟨fun e_ => by obtain ⟨_, _, ⟨c3, h3⟩, _⟩ := HJ2.out.bbE; rw [← e_, BX2.out] at h3; injection h3 with h3; injection h3 with _ h3; exact absurd h3 (by decide)⟩
          have HNG : Aside0 (wr.heap.size ≠ g) := ⟨fun e_ => by have h3 := HJ2.out.hg; rw [← e_, BX2.out] at h3; injection h3 with h3; injection h3 with _ h3; exact absurd h3 (by decide)⟩
          clear hx0 hx1 hx2 HJ cj hj hj0
          generalize wr.heap.size = b7 at *
          generalize wr.alloc (.cells #[.int .i64 e.f0, .int .i64 e.f1, .int .i64 e.f2] 170) = w2 at *
          obtain ⟨AT, cT, eT⟩ := Kd.R_slice HJ2.out.hT; subst eT
          have c0 := blk_cell HJ2.out.hg 1 _ rfl; have b1 := blk_cell BX2.out 1 _ rfl; have b0 := blk_cell BX2.out 0 _ rfl
          have HD2 : Aside0 (Below w2.heap.size w2 w2.drew) := ⟨below_drew (Below.refl _ _)⟩
          obtain ⟨w3, hw3⟩ : ∃ w_, w_ = (w2.drew.alloc (.cells #[.int .i64 e.f1, .int .i64 e.f0] 3)) := ⟨_, rfl⟩
          have HW2 : Aside0 (Below w2.heap.size w2 w3) := ⟨by rw [hw3]; exact below_alloc HD2.out _⟩
          obtain ⟨hRt, hft, hbt⟩ := HJ2.out.tt_app HW2.out
          have HRT2 := Aside0.mk hRt; have HFT2 := Aside0.mk hft; have HBT2 := Aside0.mk (@hbt); clear hRt hft hbt
          go_wp2
          refine start_ (n := 14) (S := fun w' => w'.cell? ⟨g, 1, none⟩ = some (.slice AT tt1.length cT) ∧ w'.cell? ⟨b7, 1, none⟩ = some (.int .i64 e.f1) ∧ w'.cell? ⟨b7, 0, none⟩ = some (.int .i64 e.f0)) (ds := [13]) #[false, false, false, false, false, false, false, false, false, false, false, false, false, false] (by kernel_rfl) rfl rfl (⟨(HD2.out.cell (World.block_lt_of_cell? w2 _ c0)).trans c0, (HD2.out.cell (World.block_lt_of_cell? w2 _ b1)).trans b1, (HD2.out.cell (World.block_lt_of_cell? w2 _ b0)).trans b0⟩) (fun hHeld => ?_)
          refine pure_ (i := 0) (N := some 20) (v := ?_) (a' := ?_) #[true, false, false, false, false, false, false, false, false, false, false, false, false, false] rfl rfl (by kernel_rfl) (fun _ _ _ h => h) (Or.inl ⟨by rfl, ?_⟩) ?_ ?_
          rotate_left; · intro w'; go_simp; with_reducible rfl
          rotate_left; · simp only [Act.put, List.setIfInBounds_toArray, List.set_cons_zero, List.set_cons_succ, i64_w, i32_w]; rfl
          refine pure_ (i := 1) (N := some 21) (v := ?_) (a' := ?_) #[true, true, false, false, false, false, false, false, false, false, false, false, false, false] rfl rfl (by kernel_rfl) (fun _ _ _ h => h) (Or.inl ⟨by rfl, ?_⟩) ?_ ?_
          rotate_left; · intro w'; go_simp; with_reducible rfl
          rotate_left; · simp only [Act.put, List.setIfInBounds_toArray, List.set_cons_zero, List.set_cons_succ, i64_w, i32_w]; rfl
          refine pure_ (i := 2) (N := some 22) (v := ?_) (a' := ?_) #[true, true, true, false, false, false, false, false, false, false, false, false, false, false] rfl rfl (by kernel_rfl) (fun _ _ _ h => h) (Or.inl ⟨by rfl, ?_⟩) ?_ ?_
          rotate_left; · intro w'; go_simp; with_reducible rfl
          rotate_left; · simp only [Act.put, List.setIfInBounds_toArray, List.set_cons_zero, List.set_cons_succ, i64_w, i32_w]; rfl
          refine pure_ (i := 3) (N := some 23) (v := ?_) (a' := ?_) #[true, true, true, true, false, false, false, false, false, false, false, false, false, false] rfl rfl (by kernel_rfl) (fun _ _ _ h => h) (Or.inl ⟨by rfl, ?_⟩) ?_ ?_
          rotate_left; · intro w'; go_simp; with_reducible rfl
          rotate_left; · simp only [Act.put, List.setIfInBounds_toArray, List.set_cons_zero, List.set_cons_succ, i64_w, i32_w]; rfl
          refine take_ (i := 4) (N := some 24) (v := ?_) (a' := ?_) #[true, true, true, true, true, false, false, false, false, false, false, false, false, false] rfl rfl (by kernel_rfl) (fun _ _ _ h => h) (Or.inl ⟨by rfl, ?_⟩) hHeld ?_ ?_
          rotate_left; · rintro w' ⟨s0, s1, s2⟩; go_simp; with_reducible rfl
          rotate_left; · simp only [Act.put, List.setIfInBounds_toArray, List.set_cons_zero, List.set_cons_succ, i64_w, i32_w]; rfl
          refine pure_ (i := 5) (N := some 25) (v := ?_) (a' := ?_) #[true, true, true, true, true, true, false, false, false, false, false, false, false, false] rfl rfl (by kernel_rfl) (fun _ _ _ h => h) (Or.inl ⟨by rfl, ?_⟩) ?_ ?_
          rotate_left; · intro w'; go_simp; with_reducible rfl
          rotate_left; · simp only [Act.put, List.setIfInBounds_toArray, List.set_cons_zero, List.set_cons_succ, i64_w, i32_w]; rfl
          refine take_ (i := 6) (N := some 26) (v := ?_) (a' := ?_) #[true, true, true, true, true, true, true, false, false, false, false, false, false, false] rfl rfl (by kernel_rfl) (fun _ _ _ h => h) (Or.inl ⟨by rfl, ?_⟩) hHeld ?_ ?_
          rotate_left; · rintro w' ⟨s0, s1, s2⟩; go_simp; with_reducible rfl
          rotate_left; · simp only [Act.put, List.setIfInBounds_toArray, List.set_cons_zero, List.set_cons_succ, i64_w, i32_w]; rfl
          refine pure_ (i := 7) (N := some 27) (v := ?_) (a' := ?_) #[true, true, true, true, true, true, true, true, false, false, false, false, false, false] rfl rfl (by kernel_rfl) (fun _ _ _ h => h) (Or.inl ⟨by rfl, ?_⟩) ?_ ?_
          rotate_left; · intro w'; go_simp; with_reducible rfl
          rotate_left; · simp only [Act.put, List.setIfInBounds_toArray, List.set_cons_zero, List.set_cons_succ, i64_w, i32_w]; rfl
          refine take_ (i := 8) (N := some 28) (v := ?_) (a' := ?_) #[true, true, true, true, true, true, true, true, true, false, false, false, false, false] rfl rfl (by kernel_rfl) (fun _ _ _ h => h) (Or.inl ⟨by rfl, ?_⟩) hHeld ?_ ?_
          rotate_left; · rintro w' ⟨s0, s1, s2⟩; go_simp; with_reducible rfl
          rotate_left; · simp only [Act.put, List.setIfInBounds_toArray, List.set_cons_zero, List.set_cons_succ, i64_w, i32_w]; rfl
          refine one_ (i := 9) (N := some 29) #[true, true, true, true, true, true, true, true, true, true, false, false, false, false] rfl rfl (by kernel_rfl) (by decide) (fun K hK => ?_)
          refine value_ (w1 := w3) (v := .slice (some ⟨w2.drew.heap.size, 0, none⟩) 2 2) (by rfl) rfl ?_ ?_
          · rw [hw3]; go_simp
          refine hK.out _ _ (⟨(HW2.out.cell (World.block_lt_of_cell? w2 _ c0)).trans c0, (HW2.out.cell (World.block_lt_of_cell? w2 _ b1)).trans b1, (HW2.out.cell (World.block_lt_of_cell? w2 _ b0)).trans b0⟩) (fun hHeld => ?_)
          clear hK K
          refine norm_ (a' := ?_) ?_ ?_; rotate_left; · show Act.put _ (some 29) _ = _; simp only [Act.put, List.setIfInBounds_toArray, List.set_cons_zero, List.set_cons_succ, i64_w, i32_w]; rfl
          refine one_ (i := 10) (N := some 30) #[true, true, true, true, true, true, true, true, true, true, true, false, false, false] rfl rfl (by kernel_rfl) (by decide) (fun K hK => ?_)
          refine Kd.R_append_rows_step KI (Rr := fun (x : Int) cs => cs = [Value.int .i64 x]) (w0 := w) w.heap.size (by rfl) _ _ 23 3 (.int .i64 0) 8 rfl Try.underlying23 info3 rfl (by decide) (by decide) _ tt1 [e.f1, e.f0] (some ⟨w2.drew.heap.size, 0, none⟩) 2 2 _ (fun _ => False) rfl rfl HRT2.out (by rw [hw3]; exact lit_reads w2.drew [e.f1, e.f0] (by simp)) (fun _ _ h => h) (fun _ h => h.elim) HFT2.out (below_then HJ2.out.mov HJ2.out.mov.size HW2.out) (below_then HJ2.out.mov HJ2.out.mov.size HW2.out).size (by have := HG5.out.2.2.2.1; simp; omega) ?_
          intro v4 w4 hq hB_ hgr hat
          obtain ⟨A24, c24, ev4⟩ := Kd.R_slice hq; subst ev4
          obtain ⟨hgw, hty, hN⟩ := HBT2.out hq hgr hat
          have HN4 := Aside0.mk (hN 1 rfl)
          have hc4 := blk_cell hgw 1 _ rfl; have hf4 := blk_free hgw 1
          have BX4 : Aside0 (w4.heap[b7]? = some (.cells #[.int .i64 e.f0, .int .i64 e.f1, .int .i64 e.f2] 170 (0, 0))) := ⟨(hgr.block b7 (Nat.lt_of_lt_of_le (blk_lt BX2.out) HW2.out.size) (fun e_ => by obtain ⟨c3, h3⟩ := hty b7 e_.symm; rw [BX2.out] at h3; injection h3 with h3; injection h3 with _ h3; exact absurd h3 (by decide))).trans (blk_below' BX2.out HW2.out)⟩
          clear hq hB_ hgr hat hgw hty hN HBT2 HRT2 HFT2 HJ2 BX2 c0 b1 b0
          refine hK.out _ _ (⟨hc4, blk_cell BX4.out 1 _ rfl, blk_cell BX4.out 0 _ rfl⟩) (fun hHeld => ?_)
          clear hK K
          refine norm_ (a' := ?_) ?_ ?_; rotate_left; · show Act.put _ (some 30) _ = _; simp only [Act.put, List.setIfInBounds_toArray, List.set_cons_zero, List.set_cons_succ, i64_w, i32_w]; rfl
          refine pure_ (i := 11) (N := some 31) (v := ?_) (a' := ?_) #[true, true, true, true, true, true, true, true, true, true, true, true, false, false] rfl rfl (by kernel_rfl) (fun _ _ _ h => h) (Or.inl ⟨by rfl, ?_⟩) ?_ ?_
          rotate_left; · intro w'; go_simp; with_reducible rfl
          rotate_left; · simp only [Act.put, List.setIfInBounds_toArray, List.set_cons_zero, List.set_cons_succ, i64_w, i32_w]; rfl
          refine pure_ (i := 12) (N := some 32) (v := ?_) (a' := ?_) #[true, true, true, true, true, true, true, true, true, true, true, true, true, false] rfl rfl (by kernel_rfl) (fun _ _ _ h => h) (Or.inl ⟨by rfl, ?_⟩) ?_ ?_
          rotate_left; · intro w'; go_simp; with_reducible rfl
          rotate_left; · simp only [Act.put, List.setIfInBounds_toArray, List.set_cons_zero, List.set_cons_succ, i64_w, i32_w]; rfl
          refine last_ (i := 13) (N := none) #[true, true, true, true, true, true, true, true, true, true, true, true, true, true] rfl rfl (by kernel_rfl) (by decide) (fun K hK => ?_)
          obtain ⟨w5, hw5⟩ : ∃ w_, w_ = w4.setCell ⟨g, 1, none⟩ (.slice A24 (tt1 ++ [e.f1, e.f0]).length c24) := ⟨_, rfl⟩
          refine skip_ (w1 := w5) (by rfl) rfl ?_ ?_
          · rw [hw5]; go_simp
          have HJ5 := HN4; rw [← hw5] at HJ5
          have BX5 : Aside0 (w5.heap[b7]? = some (.cells #[.int .i64 e.f0, .int .i64 e.f1, .int .i64 e.f2] 170 (0, 0))) := ⟨by rw [hw5]; exact blk_far' BX4.out HNG.out _ _⟩
          clear hw3 hw5 HN4 BX4 hf4 hc4 HD2 HW2 hHeld
          refine hK.out _ _ ?_
          clear hK K
          refine done_ (by kernel_rfl) ?_
          obtain ⟨AL, cL, eL⟩ := Kd.R_slice HJ5.out.hL; subst eL
          have c0 := blk_cell HJ5.out.hg 2 _ rfl; have b2 := blk_cell BX5.out 2 _ rfl
          have HD5 : Aside0 (Below w5.heap.size w5 w5.drew) := ⟨below_drew (Below.refl _ _)⟩
          obtain ⟨w6, hw6⟩ : ∃ w_, w_ = (w5.drew.alloc (.cells #[.int .i64 e.f2, .int .i64 0] 3)) := ⟨_, rfl⟩
          have HW5 : Aside0 (Below w5.heap.size w5 w6) := ⟨by rw [hw6]; exact below_alloc HD5.out _⟩
          obtain ⟨hRt, hft, hbt⟩ := HJ5.out.left_app HW5.out
          have HRT5 := Aside0.mk hRt; have HFT5 := Aside0.mk hft; have HBT5 := Aside0.mk (@hbt); clear hRt hft hbt
          go_wp2
          refine start_ (n := 12) (S := fun w' => w'.cell? ⟨g, 2, none⟩ = some (.slice AL left1.length cL) ∧ w'.cell? ⟨b7, 2, none⟩ = some (.int .i64 e.f2)) (ds := [11]) #[false, false, false, false, false, false, false, false, false, false, false, false] (by kernel_rfl) rfl rfl (⟨(HD5.out.cell (World.block_lt_of_cell? w5 _ c0)).trans c0, (HD5.out.cell (World.block_lt_of_cell? w5 _ b2)).trans b2⟩) (fun hHeld => ?_)
          refine pure_ (i := 0) (N := some 33) (v := ?_) (a' := ?_) #[true, false, false, false, false, false, false, false, false, false, false, false] rfl rfl (by kernel_rfl) (fun _ _ _ h => h) (Or.inl ⟨by rfl, ?_⟩) ?_ ?_
          rotate_left; · intro w'; go_simp; with_reducible rfl
          rotate_left; · simp only [Act.put, List.setIfInBounds_toArray, List.set_cons_zero, List.set_cons_succ, i64_w, i32_w]; rfl
          refine pure_ (i := 1) (N := some 34) (v := ?_) (a' := ?_) #[true, true, false, false, false, false, false, false, false, false, false, false] rfl rfl (by kernel_rfl) (fun _ _ _ h => h) (Or.inl ⟨by rfl, ?_⟩) ?_ ?_
          rotate_left; · intro w'; go_simp; with_reducible rfl
          rotate_left; · simp only [Act.put, List.setIfInBounds_toArray, List.set_cons_zero, List.set_cons_succ, i64_w, i32_w]; rfl
          refine pure_ (i := 2) (N := some 35) (v := ?_) (a' := ?_) #[true, true, true, false, false, false, false, false, false, false, false, false] rfl rfl (by kernel_rfl) (fun _ _ _ h => h) (Or.inl ⟨by rfl, ?_⟩) ?_ ?_
          rotate_left; · intro w'; go_simp; with_reducible rfl
          rotate_left; · simp only [Act.put, List.setIfInBounds_toArray, List.set_cons_zero, List.set_cons_succ, i64_w, i32_w]; rfl
          refine pure_ (i := 3) (N := some 36) (v := ?_) (a' := ?_) #[true, true, true, true, false, false, false, false, false, false, false, false] rfl rfl (by kernel_rfl) (fun _ _ _ h => h) (Or.inl ⟨by rfl, ?_⟩) ?_ ?_
          rotate_left; · intro w'; go_simp; with_reducible rfl
          rotate_left; · simp only [Act.put, List.setIfInBounds_toArray, List.set_cons_zero, List.set_cons_succ, i64_w, i32_w]; rfl
          refine take_ (i := 4) (N := some 37) (v := ?_) (a' := ?_) #[true, true, true, true, true, false, false, false, false, false, false, false] rfl rfl (by kernel_rfl) (fun _ _ _ h => h) (Or.inl ⟨by rfl, ?_⟩) hHeld ?_ ?_
          rotate_left; · rintro w' ⟨s0, s1⟩; go_simp; with_reducible rfl
          rotate_left; · simp only [Act.put, List.setIfInBounds_toArray, List.set_cons_zero, List.set_cons_succ, i64_w, i32_w]; rfl
          refine pure_ (i := 5) (N := some 38) (v := ?_) (a' := ?_) #[true, true, true, true, true, true, false, false, false, false, false, false] rfl rfl (by kernel_rfl) (fun _ _ _ h => h) (Or.inl ⟨by rfl, ?_⟩) ?_ ?_
          rotate_left; · intro w'; go_simp; with_reducible rfl
          rotate_left; · simp only [Act.put, List.setIfInBounds_toArray, List.set_cons_zero, List.set_cons_succ, i64_w, i32_w]; rfl
          refine take_ (i := 6) (N := some 39) (v := ?_) (a' := ?_) #[true, true, true, true, true, true, true, false, false, false, false, false] rfl rfl (by kernel_rfl) (fun _ _ _ h => h) (Or.inl ⟨by rfl, ?_⟩) hHeld ?_ ?_
          rotate_left; · rintro w' ⟨s0, s1⟩; go_simp; with_reducible rfl
          rotate_left; · simp only [Act.put, List.setIfInBounds_toArray, List.set_cons_zero, List.set_cons_succ, i64_w, i32_w]; rfl
          refine one_ (i := 7) (N := some 40) #[true, true, true, true, true, true, true, true, false, false, false, false] rfl rfl (by kernel_rfl) (by decide) (fun K hK => ?_)
          refine value_ (w1 := w6) (v := .slice (some ⟨w5.drew.heap.size, 0, none⟩) 2 2) (by rfl) rfl ?_ ?_
          · rw [hw6]; go_simp
          refine hK.out _ _ (⟨(HW5.out.cell (World.block_lt_of_cell? w5 _ c0)).trans c0, (HW5.out.cell (World.block_lt_of_cell? w5 _ b2)).trans b2⟩) (fun hHeld => ?_)
          clear hK K
          refine norm_ (a' := ?_) ?_ ?_; rotate_left; · show Act.put _ (some 40) _ = _; simp only [Act.put, List.setIfInBounds_toArray, List.set_cons_zero, List.set_cons_succ, i64_w, i32_w]; rfl
          refine one_ (i := 8) (N := some 41) #[true, true, true, true, true, true, true, true, true, false, false, false] rfl rfl (by kernel_rfl) (by decide) (fun K hK => ?_)
          refine Kd.R_append_rows_step KI (Rr := fun (x : Int) cs => cs = [Value.int .i64 x]) (w0 := w) w.heap.size (by rfl) _ _ 23 3 (.int .i64 0) 8 rfl Try.underlying23 info3 rfl (by decide) (by decide) _ left1 [e.f2, 0] (some ⟨w5.drew.heap.size, 0, none⟩) 2 2 _ (fun _ => False) rfl rfl HRT5.out (by rw [hw6]; exact lit_reads w5.drew [e.f2, 0] (by simp)) (fun _ _ h => h) (fun _ h => h.elim) HFT5.out (below_then HJ5.out.mov HJ5.out.mov.size HW5.out) (below_then HJ5.out.mov HJ5.out.mov.size HW5.out).size (by have := HG5.out.2.2.2.2; simp; omega) ?_
          intro v7 w7 hq hB_ hgr hat
          obtain ⟨A27, c27, ev7⟩ := Kd.R_slice hq; subst ev7
          obtain ⟨hgw, hty, hN⟩ := HBT5.out hq hgr hat
          have HN7 := Aside0.mk (hN 2 rfl)
          have hc7 := blk_cell hgw 2 _ rfl; have hf7 := blk_free hgw 2
          have BX7 : Aside0 (w7.heap[b7]? = some (.cells #[.int .i64 e.f0, .int .i64 e.f1, .int .i64 e.f2] 170 (0, 0))) := ⟨(hgr.block b7 (Nat.lt_of_lt_of_le (blk_lt BX5.out) HW5.out.size) (fun e_ => by obtain ⟨c3, h3⟩ := hty b7 e_.symm; rw [BX5.out] at h3; injection h3 with h3; injection h3 with _ h3; exact absurd h3 (by decide))).trans (blk_below' BX5.out HW5.out)⟩
          clear hq hB_ hgr hat hgw hty hN HBT5 HRT5 HFT5 HJ5 BX5 c0 b2
          refine hK.out _ _ (⟨hc7, blk_cell BX7.out 2 _ rfl⟩) (fun hHeld => ?_)
          clear hK K
          refine norm_ (a' := ?_) ?_ ?_; rotate_left; · show Act.put _ (some 41) _ = _; simp only [Act.put, List.setIfInBounds_toArray, List.set_cons_zero, List.set_cons_succ, i64_w, i32_w]; rfl
          refine pure_ (i := 9) (N := some 42) (v := ?_) (a' := ?_) #[true, true, true, true, true, true, true, true, true, true, false, false] rfl rfl (by kernel_rfl) (fun _ _ _ h => h) (Or.inl ⟨by rfl, ?_⟩) ?_ ?_
          rotate_left; · intro w'; go_simp; with_reducible rfl
          rotate_left; · simp only [Act.put, List.setIfInBounds_toArray, List.set_cons_zero, List.set_cons_succ, i64_w, i32_w]; rfl
          refine pure_ (i := 10) (N := some 43) (v := ?_) (a' := ?_) #[true, true, true, true, true, true, true, true, true, true, true, false] rfl rfl (by kernel_rfl) (fun _ _ _ h => h) (Or.inl ⟨by rfl, ?_⟩) ?_ ?_
          rotate_left; · intro w'; go_simp; with_reducible rfl
          rotate_left; · simp only [Act.put, List.setIfInBounds_toArray, List.set_cons_zero, List.set_cons_succ, i64_w, i32_w]; rfl
          refine last_ (i := 11) (N := none) #[true, true, true, true, true, true, true, true, true, true, true, true] rfl rfl (by kernel_rfl) (by decide) (fun K hK => ?_)
          obtain ⟨w8, hw8⟩ : ∃ w_, w_ = w7.setCell ⟨g, 2, none⟩ (.slice A27 (left1 ++ [e.f2, 0]).length c27) := ⟨_, rfl⟩
          refine skip_ (w1 := w8) (by rfl) rfl ?_ ?_
          · rw [hw8]; go_simp
          have HJ8 := HN7; rw [← hw8] at HJ8
          have BX8 : Aside0 (w8.heap[b7]? = some (.cells #[.int .i64 e.f0, .int .i64 e.f1, .int .i64 e.f2] 170 (0, 0))) := ⟨by rw [hw8]; exact blk_far' BX7.out HNG.out _ _⟩
          clear hw6 hw8 HN7 BX7 hf7 hc7 HD5 HW5 hHeld
          refine hK.out _ _ ?_
          clear hK K
          refine done_ (by kernel_rfl) ?_
          have HG6 : Aside0 ((rowAt (addE E1 e.f0 (wrap64 (2 * j))) e.f1).length < 1000000) := ⟨by rw [HX.out]; exact HG5.out.2.2.1⟩
          have H61 : Aside0 (inb e.f1 (addE E1 e.f0 (wrap64 (2 * j)))) := ⟨by rw [inb, addE_len]; exact HG5.out.1.2⟩
          obtain ⟨ok8, A28, c28, hc8, hfr8, hR8, hokf8, hback8⟩ := HJ8.out.row e.f0 HG5.out.1.1
          have HRR8 := Aside0.mk hR8; have HOF8 := Aside0.mk hokf8; have HBK8 := Aside0.mk (@hback8); clear hR8 hokf8 hback8 hfr8
          have c0 := blk_cell HJ8.out.hg 3 _ rfl; have b0 := blk_cell BX8.out 0 _ rfl
          have p0 := eq_true HG5.out.1.1.1; have p1 : (e.f0 < (n : Int)) = True := eq_true (by have h_ := HG5.out.1.1.2; rw [← HE1.out.1]; exact h_)
          have HD8 : Aside0 (Below w8.heap.size w8 w8.drew) := ⟨below_drew (Below.refl _ _)⟩
          obtain ⟨w9, hw9⟩ : ∃ w_, w_ = (w8.drew.alloc (.cells #[.int .i64 (wrap64 (2 * j))] 3)) := ⟨_, rfl⟩
          have HW8 : Aside0 (Below w8.heap.size w8 w9) := ⟨by rw [hw9]; exact below_alloc HD8.out _⟩
          go_wp2
          refine start_ (n := 20) (S := fun w' => w'.cell? ⟨g, 3, none⟩ = some (.slice (some ⟨bE, 0, none⟩) n cE) ∧ w'.cell? ⟨b7, 0, none⟩ = some (.int .i64 e.f0) ∧ w'.cell? ⟨bE, e.f0.toNat, none⟩ = some (.slice A28 (rowAt E1 e.f0).length c28)) (ds := [19]) #[false, false, false, false, false, false, false, false, false, false, false, false, false, false, false, false, false, false, false, false] (by kernel_rfl) rfl rfl (⟨(HD8.out.cell (World.block_lt_of_cell? w8 _ c0)).trans c0, (HD8.out.cell (World.block_lt_of_cell? w8 _ b0)).trans b0, (HD8.out.cell (World.block_lt_of_cell? w8 _ hc8)).trans hc8⟩) (fun hHeld => ?_)
          refine pure_ (i := 0) (N := some 44) (v := ?_) (a' := ?_) #[true, false, false, false, false, false, false, false, false, false, false, false, false, false, false, false, false, false, false, false] rfl rfl (by kernel_rfl) (fun _ _ _ h => h) (Or.inl ⟨by rfl, ?_⟩) ?_ ?_
          rotate_left; · intro w'; go_simp; with_reducible rfl
          rotate_left; · simp only [Act.put, List.setIfInBounds_toArray, List.set_cons_zero, List.set_cons_succ, i64_w, i32_w]; rfl
          refine pure_ (i := 1) (N := some 45) (v := ?_) (a' := ?_) #[true, true, false, false, false, false, false, false, false, false, false, false, false, false, false, false, false, false, false, false] rfl rfl (by kernel_rfl) (fun _ _ _ h => h) (Or.inl ⟨by rfl, ?_⟩) ?_ ?_
          rotate_left; · intro w'; go_simp; with_reducible rfl
          rotate_left; · simp only [Act.put, List.setIfInBounds_toArray, List.set_cons_zero, List.set_cons_succ, i64_w, i32_w]; rfl
          refine pure_ (i := 2) (N := some 46) (v := ?_) (a' := ?_) #[true, true, true, false, false, false, false, false, false, false, false, false, false, false, false, false, false, false, false, false] rfl rfl (by kernel_rfl) (fun _ _ _ h => h) (Or.inl ⟨by rfl, ?_⟩) ?_ ?_
          rotate_left; · intro w'; go_simp; with_reducible rfl
          rotate_left; · simp only [Act.put, List.setIfInBounds_toArray, List.set_cons_zero, List.set_cons_succ, i64_w, i32_w]; rfl
          refine take_ (i := 3) (N := some 47) (v := ?_) (a' := ?_) #[true, true, true, true, false, false, false, false, false, false, false, false, false, false, false, false, false, false, false, false] rfl rfl (by kernel_rfl) (fun _ _ _ h => h) (Or.inl ⟨by rfl, ?_⟩) hHeld ?_ ?_
          rotate_left; · rintro w' ⟨s0, s1, s2⟩; go_simp; with_reducible rfl
          rotate_left; · simp only [Act.put, List.setIfInBounds_toArray, List.set_cons_zero, List.set_cons_succ, i64_w, i32_w]; rfl
          refine pure_ (i := 4) (N := some 48) (v := ?_) (a' := ?_) #[true, true, true, true, true, false, false, false, false, false, false, false, false, false, false, false, false, false, false, false] rfl rfl (by kernel_rfl) (fun _ _ _ h => h) (Or.inl ⟨by rfl, ?_⟩) ?_ ?_
          rotate_left; · intro w'; go_simp; with_reducible rfl
          rotate_left; · simp only [Act.put, List.setIfInBounds_toArray, List.set_cons_zero, List.set_cons_succ, i64_w, i32_w]; rfl
          refine take_ (i := 5) (N := some 49) (v := ?_) (a' := ?_) #[true, true, true, true, true, true, false, false, false, false, false, false, false, false, false, false, false, false, false, false] rfl rfl (by kernel_rfl) (fun _ _ _ h => h) (Or.inl ⟨by rfl, ?_⟩) hHeld ?_ ?_
          rotate_left; · rintro w' ⟨s0, s1, s2⟩; go_simp; with_reducible rfl
          rotate_left; · simp only [Act.put, List.setIfInBounds_toArray, List.set_cons_zero, List.set_cons_succ, i64_w, i32_w]; rfl
          refine pure_ (i := 6) (N := some 50) (v := ?_) (a' := ?_) #[true, true, true, true, true, true, true, false, false, false, false, false, false, false, false, false, false, false, false, false] rfl rfl (by kernel_rfl) (fun _ _ _ h => h) (Or.inl ⟨by rfl, ?_⟩) ?_ ?_
          rotate_left; · intro w'; go_simp; with_reducible rfl
          rotate_left; · simp only [Act.put, List.setIfInBounds_toArray, List.set_cons_zero, List.set_cons_succ, i64_w, i32_w]; rfl
          refine pure_ (i := 7) (N := some 51) (v := ?_) (a' := ?_) #[true, true, true, true, true, true, true, true, false, false, false, false, false, false, false, false, false, false, false, false] rfl rfl (by kernel_rfl) (fun _ _ _ h => h) (Or.inl ⟨by rfl, ?_⟩) ?_ ?_
          rotate_left; · intro w'; go_simp; with_reducible rfl
          rotate_left; · simp only [Act.put, List.setIfInBounds_toArray, List.set_cons_zero, List.set_cons_succ, i64_w, i32_w]; rfl
          refine pure_ (i := 8) (N := some 52) (v := ?_) (a' := ?_) #[true, true, true, true, true, true, true, true, true, false, false, false, false, false, false, false, false, false, false, false] rfl rfl (by kernel_rfl) (fun _ _ _ h => h) (Or.inl ⟨by rfl, ?_⟩) ?_ ?_
          rotate_left; · intro w'; go_simp; with_reducible rfl
          rotate_left; · simp only [Act.put, List.setIfInBounds_toArray, List.set_cons_zero, List.set_cons_succ, i64_w, i32_w]; rfl
          refine take_ (i := 9) (N := some 53) (v := ?_) (a' := ?_) #[true, true, true, true, true, true, true, true, true, true, false, false, false, false, false, false, false, false, false, false] rfl rfl (by kernel_rfl) (fun _ _ _ h => h) (Or.inl ⟨by rfl, ?_⟩) hHeld ?_ ?_
          rotate_left; · rintro w' ⟨s0, s1, s2⟩; go_simp; with_reducible rfl
          rotate_left; · simp only [Act.put, List.setIfInBounds_toArray, List.set_cons_zero, List.set_cons_succ, i64_w, i32_w]; rfl
          refine pure_ (i := 10) (N := some 54) (v := ?_) (a' := ?_) #[true, true, true, true, true, true, true, true, true, true, true, false, false, false, false, false, false, false, false, false] rfl rfl (by kernel_rfl) (fun _ _ _ h => h) (Or.inl ⟨by rfl, ?_⟩) ?_ ?_
          rotate_left; · intro w'; go_simp; with_reducible rfl
          rotate_left; · simp only [Act.put, List.setIfInBounds_toArray, List.set_cons_zero, List.set_cons_succ, i64_w, i32_w]; rfl
          refine take_ (i := 11) (N := some 55) (v := ?_) (a' := ?_) #[true, true, true, true, true, true, true, true, true, true, true, true, false, false, false, false, false, false, false, false] rfl rfl (by kernel_rfl) (fun _ _ _ h => h) (Or.inl ⟨by rfl, ?_⟩) hHeld ?_ ?_
          rotate_left; · rintro w' ⟨s0, s1, s2⟩; go_simp; with_reducible rfl
          rotate_left; · simp only [Act.put, List.setIfInBounds_toArray, List.set_cons_zero, List.set_cons_succ, i64_w, i32_w]; rfl
          refine pure_ (i := 12) (N := some 56) (v := ?_) (a' := ?_) #[true, true, true, true, true, true, true, true, true, true, true, true, true, false, false, false, false, false, false, false] rfl rfl (by kernel_rfl) (fun _ _ _ h => h) (Or.inl ⟨by rfl, ?_⟩) ?_ ?_
          rotate_left; · intro w'; go_simp; with_reducible rfl
          rotate_left; · simp only [Act.put, List.setIfInBounds_toArray, List.set_cons_zero, List.set_cons_succ, i64_w, i32_w]; rfl
          refine take_ (i := 13) (N := some 57) (v := ?_) (a' := ?_) #[true, true, true, true, true, true, true, true, true, true, true, true, true, true, false, false, false, false, false, false] rfl rfl (by kernel_rfl) (fun _ _ _ h => h) (Or.inl ⟨by rfl, ?_⟩) hHeld ?_ ?_
          rotate_left; · rintro w' ⟨s0, s1, s2⟩; go_simp; with_reducible rfl
          rotate_left; · simp only [Act.put, List.setIfInBounds_toArray, List.set_cons_zero, List.set_cons_succ, i64_w, i32_w]; rfl
          refine pure_ (i := 14) (N := some 58) (v := ?_) (a' := ?_) #[true, true, true, true, true, true, true, true, true, true, true, true, true, true, true, false, false, false, false, false] rfl rfl (by kernel_rfl) (fun _ _ _ h => h) (Or.inl ⟨by rfl, ?_⟩) ?_ ?_
          rotate_left; · intro w'; go_simp; with_reducible rfl
          rotate_left; · simp only [Act.put, List.setIfInBounds_toArray, List.set_cons_zero, List.set_cons_succ, i64_w, i32_w]; rfl
          refine pure_ (i := 15) (N := some 59) (v := ?_) (a' := ?_) #[true, true, true, true, true, true, true, true, true, true, true, true, true, true, true, true, false, false, false, false] rfl rfl (by kernel_rfl) (fun _ _ _ h => h) (Or.inl ⟨by rfl, ?_⟩) ?_ ?_
          rotate_left; · intro w'; go_simp; with_reducible rfl
          rotate_left; · simp only [Act.put, List.setIfInBounds_toArray, List.set_cons_zero, List.set_cons_succ, i64_w, i32_w]; rfl
          refine one_ (i := 16) (N := some 60) #[true, true, true, true, true, true, true, true, true, true, true, true, true, true, true, true, true, false, false, false] rfl rfl (by kernel_rfl) (by decide) (fun K hK => ?_)
          refine value_ (w1 := w9) (v := .slice (some ⟨w8.drew.heap.size, 0, none⟩) 1 1) (by rfl) rfl ?_ ?_
          · rw [hw9]; go_simp
          refine hK.out _ _ (⟨(HW8.out.cell (World.block_lt_of_cell? w8 _ c0)).trans c0, (HW8.out.cell (World.block_lt_of_cell? w8 _ b0)).trans b0, (HW8.out.cell (World.block_lt_of_cell? w8 _ hc8)).trans hc8⟩) (fun hHeld => ?_)
          clear hK K
          refine norm_ (a' := ?_) ?_ ?_; rotate_left; · show Act.put _ (some 60) _ = _; simp only [Act.put, List.setIfInBounds_toArray, List.set_cons_zero, List.set_cons_succ, i64_w, i32_w]; rfl
          refine one_ (i := 17) (N := some 61) #[true, true, true, true, true, true, true, true, true, true, true, true, true, true, true, true, true, true, false, false] rfl rfl (by kernel_rfl) (by decide) (fun K hK => ?_)
          refine Kd.R_append_rows_step KI (Rr := fun (x : Int) cs => cs = [Value.int .i64 x]) (w0 := w) w.heap.size (by rfl) _ _ 23 3 (.int .i64 0) 8 rfl Try.underlying23 info3 rfl (by decide) (by decide) _ (rowAt E1 e.f0) [(wrap64 (2 * j))] (some ⟨w8.drew.heap.size, 0, none⟩) 1 1 ok8 (fun _ => False) rfl rfl (HRR8.out _ HW8.out) (by rw [hw9]; exact lit_reads w8.drew [(wrap64 (2 * j))] (by simp)) (fun _ _ h => h) (fun _ h => h.elim) (fun k hk => HOF8.out k (Nat.le_trans HW8.out.size hk)) (below_then HJ8.out.mov HJ8.out.mov.size HW8.out) (below_then HJ8.out.mov HJ8.out.mov.size HW8.out).size (by have := HG5.out.2.1; simp; omega) ?_
          intro v10 w10 hq hB_ hgr hat
          obtain ⟨A30, c30, ev10⟩ := Kd.R_slice hq; subst ev10
          obtain ⟨hgw, hf10, hc10, hty, hN⟩ := HBK8.out HW8.out hq hgr
          have HN10 := Aside0.mk hN
          have BX10 : Aside0 (w10.heap[b7]? = some (.cells #[.int .i64 e.f0, .int .i64 e.f1, .int .i64 e.f2] 170 (0, 0))) := ⟨(hgr.block b7 (Nat.lt_of_lt_of_le (blk_lt BX8.out) HW8.out.size) (fun e_ => by obtain ⟨_, c3, h3⟩ := hty b7 e_.symm; rw [BX8.out] at h3; injection h3 with h3; injection h3 with _ h3; exact absurd h3 (by decide))).trans (blk_below' BX8.out HW8.out)⟩
          have HGW10 := Aside0.mk hgw
          clear hq hB_ hgr hat hgw hty hN HBK8 HRR8 HOF8 HJ8 BX8 c0 b0 hc8
          refine hK.out _ _ (⟨blk_cell HGW10.out 3 _ rfl, blk_cell BX10.out 0 _ rfl, hc10⟩) (fun hHeld => ?_)
          clear hK K
          refine norm_ (a' := ?_) ?_ ?_; rotate_left; · show Act.put _ (some 61) _ = _; simp only [Act.put, List.setIfInBounds_toArray, List.set_cons_zero, List.set_cons_succ, i64_w, i32_w]; rfl
          refine pure_ (i := 18) (N := some 62) (v := ?_) (a' := ?_) #[true, true, true, true, true, true, true, true, true, true, true, true, true, true, true, true, true, true, true, false] rfl rfl (by kernel_rfl) (fun _ _ _ h => h) (Or.inl ⟨by rfl, ?_⟩) ?_ ?_
          rotate_left; · intro w'; go_simp; with_reducible rfl
          rotate_left; · simp only [Act.put, List.setIfInBounds_toArray, List.set_cons_zero, List.set_cons_succ, i64_w, i32_w]; rfl
          refine last_ (i := 19) (N := none) #[true, true, true, true, true, true, true, true, true, true, true, true, true, true, true, true, true, true, true, true] rfl rfl (by kernel_rfl) (by decide) (fun K hK => ?_)
          obtain ⟨w11, hw11⟩ : ∃ w_, w_ = w10.setCell ⟨bE, e.f0.toNat, none⟩ (.slice A30 (rowAt E1 e.f0 ++ [(wrap64 (2 * j))]).length c30) := ⟨_, rfl⟩
          refine skip_ (w1 := w11) (by rfl) rfl ?_ ?_
          · rw [hw11]; go_simp
          have HJ11 := HN10; rw [← hw11] at HJ11
          have BX11 : Aside0 (w11.heap[b7]? = some (.cells #[.int .i64 e.f0, .int .i64 e.f1, .int .i64 e.f2] 170 (0, 0))) := ⟨by rw [hw11]; exact blk_far' BX10.out HNB.out _ _⟩
          clear hw9 hw11 HN10 BX10 hf10 hc10 p0 p1 HGW10 HD8 HW8 hHeld
          refine hK.out _ _ ?_
          clear hK K
          refine done_ (by kernel_rfl) ?_
          obtain ⟨ok11, A31, c31, hc11, hfr11, hR11, hokf11, hback11⟩ := HJ11.out.row e.f1 H61.out
          have HRR11 := Aside0.mk hR11; have HOF11 := Aside0.mk hokf11; have HBK11 := Aside0.mk (@hback11); clear hR11 hokf11 hback11 hfr11
          have c0 := blk_cell HJ11.out.hg 3 _ rfl; have b0 := blk_cell BX11.out 1 _ rfl
          have p0 := eq_true H61.out.1; have p1 : (e.f1 < (n : Int)) = True := eq_true (by have h_ := H61.out.2; rw [← HE1.out.1]; rw [addE_len] at h_; exact h_)
          have HD11 : Aside0 (Below w11.heap.size w11 w11.drew) := ⟨below_drew (Below.refl _ _)⟩
          obtain ⟨w12, hw12⟩ : ∃ w_, w_ = (w11.drew.alloc (.cells #[.int .i64 (wrap64 (wrap64 (2 * j) + 1))] 3)) := ⟨_, rfl⟩
          have HW11 : Aside0 (Below w11.heap.size w11 w12) := ⟨by rw [hw12]; exact below_alloc HD11.out _⟩
          go_wp2
          refine start_ (n := 21) (S := fun w' => w'.cell? ⟨g, 3, none⟩ = some (.slice (some ⟨bE, 0, none⟩) n cE) ∧ w'.cell? ⟨b7, 1, none⟩ = some (.int .i64 e.f1) ∧ w'.cell? ⟨bE, e.f1.toNat, none⟩ = some (.slice A31 (rowAt (addE E1 e.f0 (wrap64 (2 * j))) e.f1).length c31)) (ds := [20]) #[false, false, false, false, false, false, false, false, false, false, false, false, false, false, false, false, false, false, false, false, false] (by kernel_rfl) rfl rfl (⟨(HD11.out.cell (World.block_lt_of_cell? w11 _ c0)).trans c0, (HD11.out.cell (World.block_lt_of_cell? w11 _ b0)).trans b0, (HD11.out.cell (World.block_lt_of_cell? w11 _ hc11)).trans hc11⟩) (fun hHeld => ?_)
          refine pure_ (i := 0) (N := some 63) (v := ?_) (a' := ?_) #[true, false, false, false, false, false, false, false, false, false, false, false, false, false, false, false, false, false, false, false, false] rfl rfl (by kernel_rfl) (fun _ _ _ h => h) (Or.inl ⟨by rfl, ?_⟩) ?_ ?_
          rotate_left; · intro w'; go_simp; with_reducible rfl
          rotate_left; · simp only [Act.put, List.setIfInBounds_toArray, List.set_cons_zero, List.set_cons_succ, i64_w, i32_w]; rfl
          refine pure_ (i := 1) (N := some 64) (v := ?_) (a' := ?_) #[true, true, false, false, false, false, false, false, false, false, false, false, false, false, false, false, false, false, false, false, false] rfl rfl (by kernel_rfl) (fun _ _ _ h => h) (Or.inl ⟨by rfl, ?_⟩) ?_ ?_
          rotate_left; · intro w'; go_simp; with_reducible rfl
          rotate_left; · simp only [Act.put, List.setIfInBounds_toArray, List.set_cons_zero, List.set_cons_succ, i64_w, i32_w]; rfl
          refine pure_ (i := 2) (N := some 65) (v := ?_) (a' := ?_) #[true, true, true, false, false, false, false, false, false, false, false, false, false, false, false, false, false, false, false, false, false] rfl rfl (by kernel_rfl) (fun _ _ _ h => h) (Or.inl ⟨by rfl, ?_⟩) ?_ ?_
          rotate_left; · intro w'; go_simp; with_reducible rfl
          rotate_left; · simp only [Act.put, List.setIfInBounds_toArray, List.set_cons_zero, List.set_cons_succ, i64_w, i32_w]; rfl
          refine take_ (i := 3) (N := some 66) (v := ?_) (a' := ?_) #[true, true, true, true, false, false, false, false, false, false, false, false, false, false, false, false, false, false, false, false, false] rfl rfl (by kernel_rfl) (fun _ _ _ h => h) (Or.inl ⟨by rfl, ?_⟩) hHeld ?_ ?_
          rotate_left; · rintro w' ⟨s0, s1, s2⟩; go_simp; with_reducible rfl
          rotate_left; · simp only [Act.put, List.setIfInBounds_toArray, List.set_cons_zero, List.set_cons_succ, i64_w, i32_w]; rfl
          refine pure_ (i := 4) (N := some 67) (v := ?_) (a' := ?_) #[true, true, true, true, true, false, false, false, false, false, false, false, false, false, false, false, false, false, false, false, false] rfl rfl (by kernel_rfl) (fun _ _ _ h => h) (Or.inl ⟨by rfl, ?_⟩) ?_ ?_
          rotate_left; · intro w'; go_simp; with_reducible rfl
          rotate_left; · simp only [Act.put, List.setIfInBounds_toArray, List.set_cons_zero, List.set_cons_succ, i64_w, i32_w]; rfl
          refine take_ (i := 5) (N := some 68) (v := ?_) (a' := ?_) #[true, true, true, true, true, true, false, false, false, false, false, false, false, false, false, false, false, false, false, false, false] rfl rfl (by kernel_rfl) (fun _ _ _ h => h) (Or.inl ⟨by rfl, ?_⟩) hHeld ?_ ?_
          rotate_left; · rintro w' ⟨s0, s1, s2⟩; go_simp; with_reducible rfl
          rotate_left; · simp only [Act.put, List.setIfInBounds_toArray, List.set_cons_zero, List.set_cons_succ, i64_w, i32_w]; rfl
          refine pure_ (i := 6) (N := some 69) (v := ?_) (a' := ?_) #[true, true, true, true, true, true, true, false, false, false, false, false, false, false, false, false, false, false, false, false, false] rfl rfl (by kernel_rfl) (fun _ _ _ h => h) (Or.inl ⟨by rfl, ?_⟩) ?_ ?_
          rotate_left; · intro w'; go_simp; with_reducible rfl
          rotate_left; · simp only [Act.put, List.setIfInBounds_toArray, List.set_cons_zero, List.set_cons_succ, i64_w, i32_w]; rfl
          refine pure_ (i := 7) (N := some 70) (v := ?_) (a' := ?_) #[true, true, true, true, true, true, true, true, false, false, false, false, false, false, false, false, false, false, false, false, false] rfl rfl (by kernel_rfl) (fun _ _ _ h => h) (Or.inl ⟨by rfl, ?_⟩) ?_ ?_
          rotate_left; · intro w'; go_simp; with_reducible rfl
          rotate_left; · simp only [Act.put, List.setIfInBounds_toArray, List.set_cons_zero, List.set_cons_succ, i64_w, i32_w]; rfl
          refine pure_ (i := 8) (N := some 71) (v := ?_) (a' := ?_) #[true, true, true, true, true, true, true, true, true, false, false, false, false, false, false, false, false, false, false, false, false] rfl rfl (by kernel_rfl) (fun _ _ _ h => h) (Or.inl ⟨by rfl, ?_⟩) ?_ ?_
          rotate_left; · intro w'; go_simp; with_reducible rfl
          rotate_left; · simp only [Act.put, List.setIfInBounds_toArray, List.set_cons_zero, List.set_cons_succ, i64_w, i32_w]; rfl
          refine take_ (i := 9) (N := some 72) (v := ?_) (a' := ?_) #[true, true, true, true, true, true, true, true, true, true, false, false, false, false, false, false, false, false, false, false, false] rfl rfl (by kernel_rfl) (fun _ _ _ h => h) (Or.inl ⟨by rfl, ?_⟩) hHeld ?_ ?_
          rotate_left; · rintro w' ⟨s0, s1, s2⟩; go_simp; with_reducible rfl
          rotate_left; · simp only [Act.put, List.setIfInBounds_toArray, List.set_cons_zero, List.set_cons_succ, i64_w, i32_w]; rfl
          refine pure_ (i := 10) (N := some 73) (v := ?_) (a' := ?_) #[true, true, true, true, true, true, true, true, true, true, true, false, false, false, false, false, false, false, false, false, false] rfl rfl (by kernel_rfl) (fun _ _ _ h => h) (Or.inl ⟨by rfl, ?_⟩) ?_ ?_
          rotate_left; · intro w'; go_simp; with_reducible rfl
          rotate_left; · simp only [Act.put, List.setIfInBounds_toArray, List.set_cons_zero, List.set_cons_succ, i64_w, i32_w]; rfl
          refine take_ (i := 11) (N := some 74) (v := ?_) (a' := ?_) #[true, true, true, true, true, true, true, true, true, true, true, true, false, false, false, false, false, false, false, false, false] rfl rfl (by kernel_rfl) (fun _ _ _ h => h) (Or.inl ⟨by rfl, ?_⟩) hHeld ?_ ?_
          rotate_left; · rintro w' ⟨s0, s1, s2⟩; go_simp; with_reducible rfl
          rotate_left; · simp only [Act.put, List.setIfInBounds_toArray, List.set_cons_zero, List.set_cons_succ, i64_w, i32_w]; rfl
          refine pure_ (i := 12) (N := some 75) (v := ?_) (a' := ?_) #[true, true, true, true, true, true, true, true, true, true, true, true, true, false, false, false, false, false, false, false, false] rfl rfl (by kernel_rfl) (fun _ _ _ h => h) (Or.inl ⟨by rfl, ?_⟩) ?_ ?_
          rotate_left; · intro w'; go_simp; with_reducible rfl
          rotate_left; · simp only [Act.put, List.setIfInBounds_toArray, List.set_cons_zero, List.set_cons_succ, i64_w, i32_w]; rfl
          refine take_ (i := 13) (N := some 76) (v := ?_) (a' := ?_) #[true, true, true, true, true, true, true, true, true, true, true, true, true, true, false, false, false, false, false, false, false] rfl rfl (by kernel_rfl) (fun _ _ _ h => h) (Or.inl ⟨by rfl, ?_⟩) hHeld ?_ ?_
          rotate_left; · rintro w' ⟨s0, s1, s2⟩; go_simp; with_reducible rfl
          rotate_left; · simp only [Act.put, List.setIfInBounds_toArray, List.set_cons_zero, List.set_cons_succ, i64_w, i32_w]; rfl
          refine pure_ (i := 14) (N := some 77) (v := ?_) (a' := ?_) #[true, true, true, true, true, true, true, true, true, true, true, true, true, true, true, false, false, false, false, false, false] rfl rfl (by kernel_rfl) (fun _ _ _ h => h) (Or.inl ⟨by rfl, ?_⟩) ?_ ?_
          rotate_left; · intro w'; go_simp; with_reducible rfl
          rotate_left; · simp only [Act.put, List.setIfInBounds_toArray, List.set_cons_zero, List.set_cons_succ, i64_w, i32_w]; rfl
          refine pure_ (i := 15) (N := some 78) (v := ?_) (a' := ?_) #[true, true, true, true, true, true, true, true, true, true, true, true, true, true, true, true, false, false, false, false, false] rfl rfl (by kernel_rfl) (fun _ _ _ h => h) (Or.inl ⟨by rfl, ?_⟩) ?_ ?_
          rotate_left; · intro w'; go_simp; with_reducible rfl
          rotate_left; · simp only [Act.put, List.setIfInBounds_toArray, List.set_cons_zero, List.set_cons_succ, i64_w, i32_w]; rfl
          refine pure_ (i := 16) (N := some 79) (v := ?_) (a' := ?_) #[true, true, true, true, true, true, true, true, true, true, true, true, true, true, true, true, true, false, false, false, false] rfl rfl (by kernel_rfl) (fun _ _ _ h => h) (Or.inl ⟨by rfl, ?_⟩) ?_ ?_
          rotate_left; · intro w'; go_simp; with_reducible rfl
          rotate_left; · simp only [Act.put, List.setIfInBounds_toArray, List.set_cons_zero, List.set_cons_succ, i64_w, i32_w]; rfl
          refine one_ (i := 17) (N := some 80) #[true, true, true, true, true, true, true, true, true, true, true, true, true, true, true, true, true, true, false, false, false] rfl rfl (by kernel_rfl) (by decide) (fun K hK => ?_)
          refine value_ (w1 := w12) (v := .slice (some ⟨w11.drew.heap.size, 0, none⟩) 1 1) (by rfl) rfl ?_ ?_
          · rw [hw12]; go_simp
          refine hK.out _ _ (⟨(HW11.out.cell (World.block_lt_of_cell? w11 _ c0)).trans c0, (HW11.out.cell (World.block_lt_of_cell? w11 _ b0)).trans b0, (HW11.out.cell (World.block_lt_of_cell? w11 _ hc11)).trans hc11⟩) (fun hHeld => ?_)
          clear hK K
          refine norm_ (a' := ?_) ?_ ?_; rotate_left; · show Act.put _ (some 80) _ = _; simp only [Act.put, List.setIfInBounds_toArray, List.set_cons_zero, List.set_cons_succ, i64_w, i32_w]; rfl
          refine one_ (i := 18) (N := some 81) #[true, true, true, true, true, true, true, true, true, true, true, true, true, true, true, true, true, true, true, false, false] rfl rfl (by kernel_rfl) (by decide) (fun K hK => ?_)
          refine Kd.R_append_rows_step KI (Rr := fun (x : Int) cs => cs = [Value.int .i64 x]) (w0 := w) w.heap.size (by rfl) _ _ 23 3 (.int .i64 0) 8 rfl Try.underlying23 info3 rfl (by decide) (by decide) _ (rowAt (addE E1 e.f0 (wrap64 (2 * j))) e.f1) [(wrap64 (wrap64 (2 * j) + 1))] (some ⟨w11.drew.heap.size, 0, none⟩) 1 1 ok11 (fun _ => False) rfl rfl (HRR11.out _ HW11.out) (by rw [hw12]; exact lit_reads w11.drew [(wrap64 (wrap64 (2 * j) + 1))] (by simp)) (fun _ _ h => h) (fun _ h => h.elim) (fun k hk => HOF11.out k (Nat.le_trans HW11.out.size hk)) (below_then HJ11.out.mov HJ11.out.mov.size HW11.out) (below_then HJ11.out.mov HJ11.out.mov.size HW11.out).size (by have := HG6.out; simp; omega) ?_
          intro v13 w13 hq hB_ hgr hat
          obtain ⟨A33, c33, ev13⟩ := Kd.R_slice hq; subst ev13
          obtain ⟨hgw, hf13, hc13, hty, hN⟩ := HBK11.out HW11.out hq hgr
          have HN13 := Aside0.mk hN
          have BX13 : Aside0 (w13.heap[b7]? = some (.cells #[.int .i64 e.f0, .int .i64 e.f1, .int .i64 e.f2] 170 (0, 0))) := ⟨(hgr.block b7 (Nat.lt_of_lt_of_le (blk_lt BX11.out) HW11.out.size) (fun e_ => by obtain ⟨_, c3, h3⟩ := hty b7 e_.symm; rw [BX11.out] at h3; injection h3 with h3; injection h3 with _ h3; exact absurd h3 (by decide))).trans (blk_below' BX11.out HW11.out)⟩
          have HGW13 := Aside0.mk hgw
          clear hq hB_ hgr hat hgw hty hN HBK11 HRR11 HOF11 HJ11 BX11 c0 b0 hc11
          refine hK.out _ _ (⟨blk_cell HGW13.out 3 _ rfl, blk_cell BX13.out 1 _ rfl, hc13⟩) (fun hHeld => ?_)
          clear hK K
          refine norm_ (a' := ?_) ?_ ?_; rotate_left; · show Act.put _ (some 81) _ = _; simp only [Act.put, List.setIfInBounds_toArray, List.set_cons_zero, List.set_cons_succ, i64_w, i32_w]; rfl
          refine pure_ (i := 19) (N := some 82) (v := ?_) (a' := ?_) #[true, true, true, true, true, true, true, true, true, true, true, true, true, true, true, true, true, true, true, true, false] rfl rfl (by kernel_rfl) (fun _ _ _ h => h) (Or.inl ⟨by rfl, ?_⟩) ?_ ?_
          rotate_left; · intro w'; go_simp; with_reducible rfl
          rotate_left; · simp only [Act.put, List.setIfInBounds_toArray, List.set_cons_zero, List.set_cons_succ, i64_w, i32_w]; rfl
          refine last_ (i := 20) (N := none) #[true, true, true, true, true, true, true, true, true, true, true, true, true, true, true, true, true, true, true, true, true] rfl rfl (by kernel_rfl) (by decide) (fun K hK => ?_)
          obtain ⟨w14, hw14⟩ : ∃ w_, w_ = w13.setCell ⟨bE, e.f1.toNat, none⟩ (.slice A33 (rowAt (addE E1 e.f0 (wrap64 (2 * j))) e.f1 ++ [(wrap64 (wrap64 (2 * j) + 1))]).length c33) := ⟨_, rfl⟩
          refine skip_ (w1 := w14) (by rfl) rfl ?_ ?_
          · rw [hw14]; go_simp
          have HJ14 := HN13; rw [← hw14] at HJ14
          have BX14 : Aside0 (w14.heap[b7]? = some (.cells #[.int .i64 e.f0, .int .i64 e.f1, .int .i64 e.f2] 170 (0, 0))) := ⟨by rw [hw14]; exact blk_far' BX13.out HNB.out _ _⟩
          clear hw12 hw14 HN13 BX13 hf13 hc13 p0 p1 HGW13 HD11 HW11 hHeld
          refine hK.out _ _ ?_
          clear hK K
          refine done_ (by kernel_rfl) ?_
          have HJ15 : Aside0 (NetInv w w14 g (fun vT vL => #[.int .i64 (n : Int), vT, vL, .slice (some ⟨bE, 0, none⟩) n cE]) 174 bE cE (addE (addE E1 e.f0 (tt1.length : Int)) e.f1 (wrap64 ((tt1.length : Int) + 1))) _ _ _ _) := ⟨by have h_ := HJ14.out; rw [HX.out] at h_; exact h_⟩
          go_wp2
          go_roundg es.length
          case measure => have := HL3.out.1; omega
          case rel => exact ⟨es, j + 1, _, _, _, _, _, by rw [HL3.out.2.2.2.2], ⟨rfl, HL3.out.2.1, HL3.out.2.2.1, HL3.out.2.2.2.1⟩, H2, ⟨by rw [addE_len, addE_len]; exact HE1.out.1, by have := HX2.out; simp; omega⟩, HJ15⟩
        · rw [if_neg hg5] at hs
          cases hs
  · rw [if_neg hn] at h
    cases h
end Go.Proofs.Ytclpjlaielphfaa.Flow
end
