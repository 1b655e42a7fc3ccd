/- Used by the claim's last text. -/
import Derived.Test.YtclpjlaielphfaaRseFlow9
import Derived.Test.YtclpjlaielphfaaRseFlow4
import Derived.Test.YtclpjlaielphfaaRsePFx0
section
namespace Go.Proofs.Ytclpjlaielphfaa.Flow
open Go Go.RowKit Go.Proofs.YtclpjlaielphfaaW.PrintWords Go.Proofs.YtclpjlaielphfaaW.PrintLast Go.Proofs.YtclpjlaielphfaaW.PrintMore Go.Proofs.Ytclpjlaielphfaa.PF
set_option linter.unusedVariables false
set_option linter.unusedSimpArgs false
abbrev NetSt := List (List Int) × List Int × List Int
def netStep (st : NetSt) (e : S170) : Option NetSt :=
  if (inb e.f0 st.1 ∧ inb e.f1 st.1) ∧ (rowAt st.1 e.f0).length < 1000000 ∧ (rowAt (addE st.1 e.f0 (st.2.1.length : Int)) e.f1).length < 1000000 ∧ st.2.1.length < 1000000 ∧ st.2.2.length < 1000000 then
    some (addE (addE st.1 e.f0 (st.2.1.length : Int)) e.f1 (wrap64 ((st.2.1.length : Int) + 1)), st.2.1 ++ [e.f1, e.f0], st.2.2 ++ [e.f2, 0])
  else none
def netFold : List S170 → NetSt → Option NetSt
  | [], s => some s
  | e :: es, s => (netStep s e).bind (netFold es)
def net (n : Nat) (l : List S170) : Option NetSt := if 0 < n ∧ n ≤ 1000000 then netFold l (List.replicate n [], [], []) else none
theorem lit_reads (W : World) (ys : List Int) (h : ys.length ≤ 1000) : ReadsRow (fun (x : Int) cs => cs = [Value.int .i64 x]) 1 (W.alloc (.cells (ys.map (Value.int .i64)).toArray 3)) (some ⟨W.heap.size, 0, none⟩) ys.length ys := by
  refine ⟨rfl, by omega, fun _ => ⟨_, rfl, fun j p hj => ⟨[.int .i64 p], rfl, rfl, fun i u hu => ?_⟩⟩⟩
  obtain ⟨hjl, hjp⟩ := List.getElem?_eq_some_iff.1 hj
  have hi : i = 0 := by
    have := (List.getElem?_eq_some_iff.1 hu).1
    simpa using this
  subst hi
  simp only [List.getElem?_cons_zero, Option.some.injEq] at hu
  subst hu
  rw [add_plain, cell_of_row _ _ _ _ _ _ (heap_alloc_new W _)]
  simp [hj]
def NewPost (w : World) (n : Nat) (E : List (List Int)) (tt left : List Int) (e : Ending) (w' : World) : Prop :=
  ∃ (g bE cE : Nat) (vT vL : Value), e = .returned (.pointer (some ⟨g, 0, none⟩)) ∧ NetInv w w' g (fun vT vL => #[.slice (some ⟨bE, 0, none⟩) n cE, vT, vL, .slice none 0 0, .slice none 0 0]) 172 bE cE E tt left vT vL ∧ E.length = n
set_option maxHeartbeats 8000000 in
set_option maxRecDepth 100000 in
theorem newResidual_calls (n : Nat) (A1 : Option Addr) (c1 : Nat) (l : List S170) (w : World) (E : List (List Int)) (tt left : List Int)
    (hr1 : Kd.C k170 w A1 l.length l) (hc1 : l.length ≤ c1) (h : net n l = some (E, tt, left)) :
    Calls Try.prog 142 #[.int .i64 n, .slice A1 l.length c1] w (NewPost w n E tt left) := by
  unfold net at h
  by_cases hn : 0 < n ∧ n ≤ 1000000
  · rw [if_pos hn] at h
    have HN := Aside0.mk hn
    have HR1 := Aside0.mk hr1
    have H := Aside0.mk h
    clear hn hr1 h
    obtain ⟨i23, hi23, hz23⟩ : ∃ i, Try.prog.info? 23 = some i ∧ i.zero = some (.slice none 0 0) ∧ i.size = 1 ∧ i.bytes = 24 := by
      have h_ : (Try.prog.info? 23).map (fun i => (i.zero, i.size, i.bytes)) = some (some (.slice none 0 0), 1, 24) := by kernel_rfl
      obtain ⟨i, hi, hz⟩ := Option.map_eq_some_iff.1 h_
      simp only [Prod.mk.injEq] at hz
      exact ⟨i, hi, hz.1, hz.2.1, hz.2.2⟩
    have info23 : (Try.prog.info? 23).map (fun i => (i.zero, i.size, i.bytes)) = some (some (.slice none 0 0), 1, 24) := by kernel_rfl
    go_enter Try.func142, Try.ntmps142
    go_wp2_with (first
      | ((with_reducible refine gate_dst (N := 9) rfl ?_); go_must (refine Kd.S_make KR (w0 := w) w.heap.size 23 rfl (N := 9) rfl 22 _ _ rfl (n : Int) rfl rfl Try.underlying22 (.slice none 0 0) 24 info23 rfl (by decide) (by decide) [] (ok := fun _ => True) (okp := fun _ => False) ⟨_, rfl, Kd.R_nil _ _ _ _ _⟩ (fun _ hk => hk.elim) trivial (by omega) (by have := HN.out.2; omega) (Below.refl _ _) (Nat.le_refl _) ?_; intro v1 w1 hS hb hg_ hnew; obtain ⟨bE, cE, eE, hbE, hlt, hc⟩ := Kd.S_form hS (by have := HN.out.1; simp; omega); have hS1 := Aside0.mk hS; have hB1 := Aside0.mk hb; subst eE; clear hS hb hg_ hnew))
      )
    have HJ : Aside0 (NetInv w (w1.alloc (.cells #[.slice (some ⟨bE, 0, none⟩) n cE, .slice none 0 0, .slice none 0 0, .slice none 0 0, .slice none 0 0] 172)) w1.heap.size (fun vT vL => #[.slice (some ⟨bE, 0, none⟩) n cE, vT, vL, .slice none 0 0, .slice none 0 0]) 172 bE cE (List.replicate n []) [] [] (.slice none 0 0) (.slice none 0 0)) := ⟨{
      hg := heap_alloc_new w1 _
      hE := by
        have h_ := Kd.S_mono (ok' := fun k => some k ≠ (Value.slice none 0 0).ownBlock ∧ some k ≠ (Value.slice none 0 0).ownBlock) (Kd.S_alloc hS1.out (.cells #[.slice (some ⟨bE, 0, none⟩) n cE, .slice none 0 0, .slice none 0 0, .slice none 0 0, .slice none 0 0] 172)) (fun k _ => ⟨by simp [Value.ownBlock], by simp [Value.ownBlock]⟩)
        simpa using h_
      hT := Kd.R_nil _ _ _ _ _
      hL := Kd.R_nil _ _ _ _ _
      gg := hB1.out.size
      hty := by decide
      mov := below_then hB1.out hB1.out.size (below_alloc (Below.refl _ _) _) }⟩
    have HLn : Aside0 (l.length ≤ 9223372036854775807) := ⟨HR1.out.2.1⟩
    clear hS1 hB1 hbE hlt hc
    generalize w1.heap.size = g at *
    go_loopg [14] l.length (fun kq v14 w' => ∃ (es : List S170) (j : Int) (E1 : List (List Int)) (tt1 left1 : List Int) (vT vL : Value), v14 = .int .i64 j ∧ Aside0 (es.length = kq ∧ 0 ≤ j ∧ es = l.drop j.toNat ∧ j + (kq : Int) = (l.length : Int)) ∧ Aside0 (netFold es (E1, tt1, left1) = some (E, tt, left)) ∧ Aside0 (E1.length = n) ∧ Aside0 (NetInv w w' g (fun vT vL => #[.slice (some ⟨bE, 0, none⟩) n cE, vT, vL, .slice none 0 0, .slice none 0 0]) 172 bE cE E1 tt1 left1 vT vL))
    case atStart => exact ⟨l, 0, _, _, _, _, _, rfl, ⟨rfl, Int.le_refl _, rfl, by omega⟩, H, ⟨by simp⟩, HJ⟩
    case round =>
      clear H HJ
      obtain ⟨es, j, E1, tt1, left1, vT, vL, rfl, HL, H, HE1, HJ⟩ := hrel
      cases es with
      | nil =>
        have h := H.out
        simp only [netFold, Option.some.injEq, Prod.mk.injEq] at h
        obtain ⟨rfl, rfl, rfl⟩ := h
        have hj : ¬ j < (l.length : Int) := by have := HL.out; simp at this; omega
        have cj : decide (j < (l.length : Int)) = false := decide_eq_false hj
        clear hj
        go_wp2
        go_ret
        exact ⟨g, bE, cE, vT, vL, rfl, HJ.out, HE1.out⟩
      | cons e es =>
        obtain ⟨hkq, hj0, hes, hjl⟩ := HL.out
        have hj : j < (l.length : Int) := by simp at hkq; omega
        have cj : decide (j < (l.length : Int)) = true := decide_eq_true hj
        have h2 : l.drop j.toNat = l[j.toNat]'(by omega) :: l.drop (j.toNat + 1) := List.drop_eq_getElem_cons (by omega)
        rw [h2] at hes
        injection hes with h3 h4
        have he : rd_T170 l j = e := by rw [rd_T170, List.getD_eq_getElem?_getD, List.getElem?_eq_getElem (by omega), Option.getD_some, ← h3]
        have hes' : es = l.drop (j + 1).toNat := by rw [h4, show (j + 1).toNat = j.toNat + 1 by omega]
        have hwj : wrap64 (j + 1) = j + 1 := by have := HLn.out; unfold wrap64; omega
        have HL3 : Aside0 (es.length + 1 = gk ∧ 0 ≤ j + 1 ∧ es = l.drop (j + 1).toNat ∧ j + 1 + (es.length : Int) = (l.length : Int) ∧ wrap64 (j + 1) = j + 1) := ⟨by simpa using hkq, by omega, hes', by simp at hkq; omega, hwj⟩
        obtain ⟨ad, hA1, hx0, hx1, hx2⟩ := at_T170 (Kd.C_below HR1.out HJ.out.mov) j hj0 hj
        rw [he] at hx0 hx1 hx2
        subst hA1
        have h := H.out
        simp only [netFold] at h
        obtain ⟨⟨E2, tt2, left2⟩, hs, h⟩ := Option.bind_eq_some_iff.mp h
        unfold netStep at hs
        simp only at hs
        by_cases hg5 : (inb e.f0 E1 ∧ inb e.f1 E1) ∧ (rowAt E1 e.f0).length < 1000000 ∧ (rowAt (addE E1 e.f0 (tt1.length : Int)) e.f1).length < 1000000 ∧ tt1.length < 1000000 ∧ left1.length < 1000000
        · rw [if_pos hg5] at hs
          simp only [Option.some.injEq, Prod.mk.injEq] at hs
          obtain ⟨rfl, rfl, rfl⟩ := hs
          have H2 := Aside0.mk h
          have HG5 := Aside0.mk hg5
          clear h hg5 hkq h2 h3 h4 he hes' hwj hjl HL H
          replace hj0 := eq_true hj0
          replace hj := eq_true hj
          go_wp2
          have HJ2 : Aside0 (NetInv w (wr.alloc (.cells #[.int .i64 e.f0, .int .i64 e.f1, .int .i64 e.f2] 170)) g (fun vT vL => #[.slice (some ⟨bE, 0, none⟩) n cE, vT, vL, .slice none 0 0, .slice none 0 0]) 172 bE cE E1 tt1 left1 vT vL) := ⟨HJ.out.later (below_alloc (Below.refl _ _) _)⟩
          have BX2 : Aside0 ((wr.alloc (.cells #[.int .i64 e.f0, .int .i64 e.f1, .int .i64 e.f2] 170)).heap[wr.heap.size]? = some (.cells #[.int .i64 e.f0, .int .i64 e.f1, .int .i64 e.f2] 170 (0, 0))) := ⟨heap_alloc_new wr _⟩
          have HNB : Aside0 (wr.heap.size ≠ bE) := ⟨fun e_ => by obtain ⟨_, _, ⟨c3, h3⟩, _⟩ := HJ2.out.bbE; rw [← e_, BX2.out] at h3; injection h3 with h3; injection h3 with _ h3; exact absurd h3 (by decide)⟩
          have HNG : Aside0 (wr.heap.size ≠ g) := ⟨fun e_ => by have h3 := HJ2.out.hg; rw [← e_, BX2.out] at h3; injection h3 with h3; injection h3 with _ h3; exact absurd h3 (by decide)⟩
          clear hx0 hx1 hx2 HJ cj hj hj0
          generalize wr.heap.size = b7 at *
          generalize wr.alloc (.cells #[.int .i64 e.f0, .int .i64 e.f1, .int .i64 e.f2] 170) = w2 at *
          obtain ⟨AT, cT, eT⟩ := Kd.R_slice HJ2.out.hT; subst eT
          obtain ⟨ok2, A22, c22, hc2, hfr2, hR2, hokf2, hback2⟩ := HJ2.out.row e.f0 HG5.out.1.1
          have HRR2 := Aside0.mk hR2; have HOF2 := Aside0.mk hokf2; have HBK2 := Aside0.mk (@hback2); clear hR2 hokf2 hback2 hfr2
          have c0 := blk_cell HJ2.out.hg 0 _ rfl; have b0 := blk_cell BX2.out 0 _ rfl
          have c1 := blk_cell HJ2.out.hg 1 _ rfl
          have p0 := eq_true HG5.out.1.1.1; have p1 : (e.f0 < (n : Int)) = True := eq_true (by have h_ := HG5.out.1.1.2; rw [← HE1.out]; exact h_)
          have HD2 : Aside0 (Below w2.heap.size w2 w2.drew) := ⟨below_drew (Below.refl _ _)⟩
          obtain ⟨w3, hw3⟩ : ∃ w_, w_ = (w2.drew.alloc (.cells #[.int .i64 (tt1.length : Int)] 3)) := ⟨_, rfl⟩
          have HW2 : Aside0 (Below w2.heap.size w2 w3) := ⟨by rw [hw3]; exact below_alloc HD2.out _⟩
          go_wp2
          refine start_ (n := 23) (S := fun w' => w'.cell? ⟨g, 0, none⟩ = some (.slice (some ⟨bE, 0, none⟩) n cE) ∧ w'.cell? ⟨g, 1, none⟩ = some (.slice AT tt1.length cT) ∧ w'.cell? ⟨b7, 0, none⟩ = some (.int .i64 e.f0) ∧ w'.cell? ⟨bE, e.f0.toNat, none⟩ = some (.slice A22 (rowAt E1 e.f0).length c22)) (ds := [22]) #[false, false, false, false, false, false, false, false, false, false, false, false, false, false, false, false, false, false, false, false, false, false, false] (by kernel_rfl) rfl rfl (⟨(HD2.out.cell (World.block_lt_of_cell? w2 _ c0)).trans c0, (HD2.out.cell (World.block_lt_of_cell? w2 _ c1)).trans c1, (HD2.out.cell (World.block_lt_of_cell? w2 _ b0)).trans b0, (HD2.out.cell (World.block_lt_of_cell? w2 _ hc2)).trans hc2⟩) (fun hHeld => ?_)
          refine pure_ (i := 0) (N := some 18) (v := ?_) (a' := ?_) #[true, false, false, false, false, false, false, false, false, false, false, false, false, false, false, false, false, false, false, false, false, false, false] rfl rfl (by kernel_rfl) (fun _ _ _ h => h) (Or.inl ⟨by rfl, ?_⟩) ?_ ?_
          rotate_left; · intro w'; go_simp; with_reducible rfl
          rotate_left; · simp only [Act.put, List.setIfInBounds_toArray, List.set_cons_zero, List.set_cons_succ, i64_w, i32_w]; rfl
          refine pure_ (i := 1) (N := some 19) (v := ?_) (a' := ?_) #[true, true, false, false, false, false, false, false, false, false, false, false, false, false, false, false, false, false, false, false, false, false, false] rfl rfl (by kernel_rfl) (fun _ _ _ h => h) (Or.inl ⟨by rfl, ?_⟩) ?_ ?_
          rotate_left; · intro w'; go_simp; with_reducible rfl
          rotate_left; · simp only [Act.put, List.setIfInBounds_toArray, List.set_cons_zero, List.set_cons_succ, i64_w, i32_w]; rfl
          refine pure_ (i := 2) (N := some 20) (v := ?_) (a' := ?_) #[true, true, true, false, false, false, false, false, false, false, false, false, false, false, false, false, false, false, false, false, false, false, false] rfl rfl (by kernel_rfl) (fun _ _ _ h => h) (Or.inl ⟨by rfl, ?_⟩) ?_ ?_
          rotate_left; · intro w'; go_simp; with_reducible rfl
          rotate_left; · simp only [Act.put, List.setIfInBounds_toArray, List.set_cons_zero, List.set_cons_succ, i64_w, i32_w]; rfl
          refine take_ (i := 3) (N := some 21) (v := ?_) (a' := ?_) #[true, true, true, true, false, false, false, false, false, false, false, false, false, false, false, false, false, false, false, false, false, false, false] rfl rfl (by kernel_rfl) (fun _ _ _ h => h) (Or.inl ⟨by rfl, ?_⟩) hHeld ?_ ?_
          rotate_left; · rintro w' ⟨s0, s1, s2, s3⟩; go_simp; with_reducible rfl
          rotate_left; · simp only [Act.put, List.setIfInBounds_toArray, List.set_cons_zero, List.set_cons_succ, i64_w, i32_w]; rfl
          refine pure_ (i := 4) (N := some 22) (v := ?_) (a' := ?_) #[true, true, true, true, true, false, false, false, false, false, false, false, false, false, false, false, false, false, false, false, false, false, false] rfl rfl (by kernel_rfl) (fun _ _ _ h => h) (Or.inl ⟨by rfl, ?_⟩) ?_ ?_
          rotate_left; · intro w'; go_simp; with_reducible rfl
          rotate_left; · simp only [Act.put, List.setIfInBounds_toArray, List.set_cons_zero, List.set_cons_succ, i64_w, i32_w]; rfl
          refine take_ (i := 5) (N := some 23) (v := ?_) (a' := ?_) #[true, true, true, true, true, true, false, false, false, false, false, false, false, false, false, false, false, false, false, false, false, false, false] rfl rfl (by kernel_rfl) (fun _ _ _ h => h) (Or.inl ⟨by rfl, ?_⟩) hHeld ?_ ?_
          rotate_left; · rintro w' ⟨s0, s1, s2, s3⟩; go_simp; with_reducible rfl
          rotate_left; · simp only [Act.put, List.setIfInBounds_toArray, List.set_cons_zero, List.set_cons_succ, i64_w, i32_w]; rfl
          refine pure_ (i := 6) (N := some 24) (v := ?_) (a' := ?_) #[true, true, true, true, true, true, true, false, false, false, false, false, false, false, false, false, false, false, false, false, false, false, false] rfl rfl (by kernel_rfl) (fun _ _ _ h => h) (Or.inl ⟨by rfl, ?_⟩) ?_ ?_
          rotate_left; · intro w'; go_simp; with_reducible rfl
          rotate_left; · simp only [Act.put, List.setIfInBounds_toArray, List.set_cons_zero, List.set_cons_succ, i64_w, i32_w]; rfl
          refine pure_ (i := 7) (N := some 25) (v := ?_) (a' := ?_) #[true, true, true, true, true, true, true, true, false, false, false, false, false, false, false, false, false, false, false, false, false, false, false] rfl rfl (by kernel_rfl) (fun _ _ _ h => h) (Or.inl ⟨by rfl, ?_⟩) ?_ ?_
          rotate_left; · intro w'; go_simp; with_reducible rfl
          rotate_left; · simp only [Act.put, List.setIfInBounds_toArray, List.set_cons_zero, List.set_cons_succ, i64_w, i32_w]; rfl
          refine pure_ (i := 8) (N := some 26) (v := ?_) (a' := ?_) #[true, true, true, true, true, true, true, true, true, false, false, false, false, false, false, false, false, false, false, false, false, false, false] rfl rfl (by kernel_rfl) (fun _ _ _ h => h) (Or.inl ⟨by rfl, ?_⟩) ?_ ?_
          rotate_left; · intro w'; go_simp; with_reducible rfl
          rotate_left; · simp only [Act.put, List.setIfInBounds_toArray, List.set_cons_zero, List.set_cons_succ, i64_w, i32_w]; rfl
          refine take_ (i := 9) (N := some 27) (v := ?_) (a' := ?_) #[true, true, true, true, true, true, true, true, true, true, false, false, false, false, false, false, false, false, false, false, false, false, false] rfl rfl (by kernel_rfl) (fun _ _ _ h => h) (Or.inl ⟨by rfl, ?_⟩) hHeld ?_ ?_
          rotate_left; · rintro w' ⟨s0, s1, s2, s3⟩; go_simp; with_reducible rfl
          rotate_left; · simp only [Act.put, List.setIfInBounds_toArray, List.set_cons_zero, List.set_cons_succ, i64_w, i32_w]; rfl
          refine pure_ (i := 10) (N := some 28) (v := ?_) (a' := ?_) #[true, true, true, true, true, true, true, true, true, true, true, false, false, false, false, false, false, false, false, false, false, false, false] rfl rfl (by kernel_rfl) (fun _ _ _ h => h) (Or.inl ⟨by rfl, ?_⟩) ?_ ?_
          rotate_left; · intro w'; go_simp; with_reducible rfl
          rotate_left; · simp only [Act.put, List.setIfInBounds_toArray, List.set_cons_zero, List.set_cons_succ, i64_w, i32_w]; rfl
          refine take_ (i := 11) (N := some 29) (v := ?_) (a' := ?_) #[true, true, true, true, true, true, true, true, true, true, true, true, false, false, false, false, false, false, false, false, false, false, false] rfl rfl (by kernel_rfl) (fun _ _ _ h => h) (Or.inl ⟨by rfl, ?_⟩) hHeld ?_ ?_
          rotate_left; · rintro w' ⟨s0, s1, s2, s3⟩; go_simp; with_reducible rfl
          rotate_left; · simp only [Act.put, List.setIfInBounds_toArray, List.set_cons_zero, List.set_cons_succ, i64_w, i32_w]; rfl
          refine pure_ (i := 12) (N := some 30) (v := ?_) (a' := ?_) #[true, true, true, true, true, true, true, true, true, true, true, true, true, false, false, false, false, false, false, false, false, false, false] rfl rfl (by kernel_rfl) (fun _ _ _ h => h) (Or.inl ⟨by rfl, ?_⟩) ?_ ?_
          rotate_left; · intro w'; go_simp; with_reducible rfl
          rotate_left; · simp only [Act.put, List.setIfInBounds_toArray, List.set_cons_zero, List.set_cons_succ, i64_w, i32_w]; rfl
          refine take_ (i := 13) (N := some 31) (v := ?_) (a' := ?_) #[true, true, true, true, true, true, true, true, true, true, true, true, true, true, false, false, false, false, false, false, false, false, false] rfl rfl (by kernel_rfl) (fun _ _ _ h => h) (Or.inl ⟨by rfl, ?_⟩) hHeld ?_ ?_
          rotate_left; · rintro w' ⟨s0, s1, s2, s3⟩; go_simp; with_reducible rfl
          rotate_left; · simp only [Act.put, List.setIfInBounds_toArray, List.set_cons_zero, List.set_cons_succ, i64_w, i32_w]; rfl
          refine pure_ (i := 14) (N := some 32) (v := ?_) (a' := ?_) #[true, true, true, true, true, true, true, true, true, true, true, true, true, true, true, false, false, false, false, false, false, false, false] rfl rfl (by kernel_rfl) (fun _ _ _ h => h) (Or.inl ⟨by rfl, ?_⟩) ?_ ?_
          rotate_left; · intro w'; go_simp; with_reducible rfl
          rotate_left; · simp only [Act.put, List.setIfInBounds_toArray, List.set_cons_zero, List.set_cons_succ, i64_w, i32_w]; rfl
          refine pure_ (i := 15) (N := some 33) (v := ?_) (a' := ?_) #[true, true, true, true, true, true, true, true, true, true, true, true, true, true, true, true, false, false, false, false, false, false, false] rfl rfl (by kernel_rfl) (fun _ _ _ h => h) (Or.inl ⟨by rfl, ?_⟩) ?_ ?_
          rotate_left; · intro w'; go_simp; with_reducible rfl
          rotate_left; · simp only [Act.put, List.setIfInBounds_toArray, List.set_cons_zero, List.set_cons_succ, i64_w, i32_w]; rfl
          refine pure_ (i := 16) (N := some 34) (v := ?_) (a' := ?_) #[true, true, true, true, true, true, true, true, true, true, true, true, true, true, true, true, true, false, false, false, false, false, false] rfl rfl (by kernel_rfl) (fun _ _ _ h => h) (Or.inl ⟨by rfl, ?_⟩) ?_ ?_
          rotate_left; · intro w'; go_simp; with_reducible rfl
          rotate_left; · simp only [Act.put, List.setIfInBounds_toArray, List.set_cons_zero, List.set_cons_succ, i64_w, i32_w]; rfl
          refine take_ (i := 17) (N := some 35) (v := ?_) (a' := ?_) #[true, true, true, true, true, true, true, true, true, true, true, true, true, true, true, true, true, true, false, false, false, false, false] rfl rfl (by kernel_rfl) (fun _ _ _ h => h) (Or.inl ⟨by rfl, ?_⟩) hHeld ?_ ?_
          rotate_left; · rintro w' ⟨s0, s1, s2, s3⟩; go_simp; with_reducible rfl
          rotate_left; · simp only [Act.put, List.setIfInBounds_toArray, List.set_cons_zero, List.set_cons_succ, i64_w, i32_w]; rfl
          refine pure_ (i := 18) (N := some 36) (v := ?_) (a' := ?_) #[true, true, true, true, true, true, true, true, true, true, true, true, true, true, true, true, true, true, true, false, false, false, false] rfl rfl (by kernel_rfl) (fun _ _ _ h => h) (Or.inl ⟨by rfl, ?_⟩) ?_ ?_
          rotate_left; · intro w'; go_simp; with_reducible rfl
          rotate_left; · simp only [Act.put, List.setIfInBounds_toArray, List.set_cons_zero, List.set_cons_succ, i64_w, i32_w]; rfl
          refine one_ (i := 19) (N := some 37) #[true, true, true, true, true, true, true, true, true, true, true, true, true, true, true, true, true, true, true, true, false, false, false] rfl rfl (by kernel_rfl) (by decide) (fun K hK => ?_)
          refine value_ (w1 := w3) (v := .slice (some ⟨w2.drew.heap.size, 0, none⟩) 1 1) (by rfl) rfl ?_ ?_
          · rw [hw3]; go_simp
          refine hK.out _ _ (⟨(HW2.out.cell (World.block_lt_of_cell? w2 _ c0)).trans c0, (HW2.out.cell (World.block_lt_of_cell? w2 _ c1)).trans c1, (HW2.out.cell (World.block_lt_of_cell? w2 _ b0)).trans b0, (HW2.out.cell (World.block_lt_of_cell? w2 _ hc2)).trans hc2⟩) (fun hHeld => ?_)
          clear hK K
          refine norm_ (a' := ?_) ?_ ?_; rotate_left; · show Act.put _ (some 37) _ = _; simp only [Act.put, List.setIfInBounds_toArray, List.set_cons_zero, List.set_cons_succ, i64_w, i32_w]; rfl
          refine one_ (i := 20) (N := some 38) #[true, true, true, true, true, true, true, true, true, true, true, true, true, true, true, true, true, true, true, true, true, false, false] rfl rfl (by kernel_rfl) (by decide) (fun K hK => ?_)
          refine Kd.R_append_rows_step KI (Rr := fun (x : Int) cs => cs = [Value.int .i64 x]) (w0 := w) w.heap.size (by rfl) _ _ 23 3 (.int .i64 0) 8 rfl Try.underlying23 info3 rfl (by decide) (by decide) _ (rowAt E1 e.f0) [(tt1.length : Int)] (some ⟨w2.drew.heap.size, 0, none⟩) 1 1 ok2 (fun _ => False) rfl rfl (HRR2.out _ HW2.out) (by rw [hw3]; exact lit_reads w2.drew [(tt1.length : Int)] (by simp)) (fun _ _ h => h) (fun _ h => h.elim) (fun k hk => HOF2.out k (Nat.le_trans HW2.out.size hk)) (below_then HJ2.out.mov HJ2.out.mov.size HW2.out) (below_then HJ2.out.mov HJ2.out.mov.size HW2.out).size (by have := HG5.out.2.1; simp; omega) ?_
          intro v4 w4 hq hB_ hgr hat
          obtain ⟨A24, c24, ev4⟩ := Kd.R_slice hq; subst ev4
          obtain ⟨hgw, hf4, hc4, hty, hN⟩ := HBK2.out HW2.out hq hgr
          have HN4 := Aside0.mk hN
          have BX4 : Aside0 (w4.heap[b7]? = some (.cells #[.int .i64 e.f0, .int .i64 e.f1, .int .i64 e.f2] 170 (0, 0))) := ⟨(hgr.block b7 (Nat.lt_of_lt_of_le (blk_lt BX2.out) HW2.out.size) (fun e_ => by obtain ⟨_, c3, h3⟩ := hty b7 e_.symm; rw [BX2.out] at h3; injection h3 with h3; injection h3 with _ h3; exact absurd h3 (by decide))).trans (blk_below' BX2.out HW2.out)⟩
          have HGW4 := Aside0.mk hgw
          clear hq hB_ hgr hat hgw hty hN HBK2 HRR2 HOF2 HJ2 BX2 c0 c1 b0 hc2
          refine hK.out _ _ (⟨blk_cell HGW4.out 0 _ rfl, blk_cell HGW4.out 1 _ rfl, blk_cell BX4.out 0 _ rfl, hc4⟩) (fun hHeld => ?_)
          clear hK K
          refine norm_ (a' := ?_) ?_ ?_; rotate_left; · show Act.put _ (some 38) _ = _; simp only [Act.put, List.setIfInBounds_toArray, List.set_cons_zero, List.set_cons_succ, i64_w, i32_w]; rfl
          refine pure_ (i := 21) (N := some 39) (v := ?_) (a' := ?_) #[true, true, true, true, true, true, true, true, true, true, true, true, true, true, true, true, true, true, true, true, true, true, false] rfl rfl (by kernel_rfl) (fun _ _ _ h => h) (Or.inl ⟨by rfl, ?_⟩) ?_ ?_
          rotate_left; · intro w'; go_simp; with_reducible rfl
          rotate_left; · simp only [Act.put, List.setIfInBounds_toArray, List.set_cons_zero, List.set_cons_succ, i64_w, i32_w]; rfl
          refine last_ (i := 22) (N := none) #[true, true, true, true, true, true, true, true, true, true, true, true, true, true, true, true, true, true, true, true, true, true, true] rfl rfl (by kernel_rfl) (by decide) (fun K hK => ?_)
          obtain ⟨w5, hw5⟩ : ∃ w_, w_ = w4.setCell ⟨bE, e.f0.toNat, none⟩ (.slice A24 (rowAt E1 e.f0 ++ [(tt1.length : Int)]).length c24) := ⟨_, rfl⟩
          refine skip_ (w1 := w5) (by rfl) rfl ?_ ?_
          · rw [hw5]; go_simp
          have HJ5 := HN4; rw [← hw5] at HJ5
          have BX5 : Aside0 (w5.heap[b7]? = some (.cells #[.int .i64 e.f0, .int .i64 e.f1, .int .i64 e.f2] 170 (0, 0))) := ⟨by rw [hw5]; exact blk_far' BX4.out HNB.out _ _⟩
          clear hw3 hw5 HN4 BX4 hf4 hc4 p0 p1 HGW4 HD2 HW2 hHeld
          refine hK.out _ _ ?_
          clear hK K
          refine done_ (by kernel_rfl) ?_
          have H61 : Aside0 (inb e.f1 (addE E1 e.f0 (tt1.length : Int))) := ⟨by rw [inb, addE_len]; exact HG5.out.1.2⟩
          obtain ⟨ok5, A25, c25, hc5, hfr5, hR5, hokf5, hback5⟩ := HJ5.out.row e.f1 H61.out
          have HRR5 := Aside0.mk hR5; have HOF5 := Aside0.mk hokf5; have HBK5 := Aside0.mk (@hback5); clear hR5 hokf5 hback5 hfr5
          have c0 := blk_cell HJ5.out.hg 0 _ rfl; have b0 := blk_cell BX5.out 1 _ rfl
          have c1 := blk_cell HJ5.out.hg 1 _ rfl
          have p0 := eq_true H61.out.1; have p1 : (e.f1 < (n : Int)) = True := eq_true (by have h_ := H61.out.2; rw [← HE1.out]; rw [addE_len] at h_; exact h_)
          have HD5 : Aside0 (Below w5.heap.size w5 w5.drew) := ⟨below_drew (Below.refl _ _)⟩
          obtain ⟨w6, hw6⟩ : ∃ w_, w_ = (w5.drew.alloc (.cells #[.int .i64 (wrap64 ((tt1.length : Int) + 1))] 3)) := ⟨_, rfl⟩
          have HW5 : Aside0 (Below w5.heap.size w5 w6) := ⟨by rw [hw6]; exact below_alloc HD5.out _⟩
          go_wp2
          refine start_ (n := 24) (S := fun w' => w'.cell? ⟨g, 0, none⟩ = some (.slice (some ⟨bE, 0, none⟩) n cE) ∧ w'.cell? ⟨g, 1, none⟩ = some (.slice AT tt1.length cT) ∧ w'.cell? ⟨b7, 1, none⟩ = some (.int .i64 e.f1) ∧ w'.cell? ⟨bE, e.f1.toNat, none⟩ = some (.slice A25 (rowAt (addE E1 e.f0 (tt1.length : Int)) e.f1).length c25)) (ds := [23]) #[false, false, false, false, false, false, false, false, false, false, false, false, false, false, false, false, false, false, false, false, false, false, false, false] (by kernel_rfl) rfl rfl (⟨(HD5.out.cell (World.block_lt_of_cell? w5 _ c0)).trans c0, (HD5.out.cell (World.block_lt_of_cell? w5 _ c1)).trans c1, (HD5.out.cell (World.block_lt_of_cell? w5 _ b0)).trans b0, (HD5.out.cell (World.block_lt_of_cell? w5 _ hc5)).trans hc5⟩) (fun hHeld => ?_)
          refine pure_ (i := 0) (N := some 40) (v := ?_) (a' := ?_) #[true, false, false, false, false, false, false, false, false, false, false, false, false, false, false, false, false, false, false, false, false, false, false, false] rfl rfl (by kernel_rfl) (fun _ _ _ h => h) (Or.inl ⟨by rfl, ?_⟩) ?_ ?_
          rotate_left; · intro w'; go_simp; with_reducible rfl
          rotate_left; · simp only [Act.put, List.setIfInBounds_toArray, List.set_cons_zero, List.set_cons_succ, i64_w, i32_w]; rfl
          refine pure_ (i := 1) (N := some 41) (v := ?_) (a' := ?_) #[true, true, false, false, false, false, false, false, false, false, false, false, false, false, false, false, false, false, false, false, false, false, false, false] rfl rfl (by kernel_rfl) (fun _ _ _ h => h) (Or.inl ⟨by rfl, ?_⟩) ?_ ?_
          rotate_left; · intro w'; go_simp; with_reducible rfl
          rotate_left; · simp only [Act.put, List.setIfInBounds_toArray, List.set_cons_zero, List.set_cons_succ, i64_w, i32_w]; rfl
          refine pure_ (i := 2) (N := some 42) (v := ?_) (a' := ?_) #[true, true, true, false, false, false, false, false, false, false, false, false, false, false, false, false, false, false, false, false, false, false, false, false] rfl rfl (by kernel_rfl) (fun _ _ _ h => h) (Or.inl ⟨by rfl, ?_⟩) ?_ ?_
          rotate_left; · intro w'; go_simp; with_reducible rfl
          rotate_left; · simp only [Act.put, List.setIfInBounds_toArray, List.set_cons_zero, List.set_cons_succ, i64_w, i32_w]; rfl
          refine take_ (i := 3) (N := some 43) (v := ?_) (a' := ?_) #[true, true, true, true, false, false, false, false, false, false, false, false, false, false, false, false, false, false, false, false, false, false, false, false] rfl rfl (by kernel_rfl) (fun _ _ _ h => h) (Or.inl ⟨by rfl, ?_⟩) hHeld ?_ ?_
          rotate_left; · rintro w' ⟨s0, s1, s2, s3⟩; go_simp; with_reducible rfl
          rotate_left; · simp only [Act.put, List.setIfInBounds_toArray, List.set_cons_zero, List.set_cons_succ, i64_w, i32_w]; rfl
          refine pure_ (i := 4) (N := some 44) (v := ?_) (a' := ?_) #[true, true, true, true, true, false, false, false, false, false, false, false, false, false, false, false, false, false, false, false, false, false, false, false] rfl rfl (by kernel_rfl) (fun _ _ _ h => h) (Or.inl ⟨by rfl, ?_⟩) ?_ ?_
          rotate_left; · intro w'; go_simp; with_reducible rfl
          rotate_left; · simp only [Act.put, List.setIfInBounds_toArray, List.set_cons_zero, List.set_cons_succ, i64_w, i32_w]; rfl
          refine take_ (i := 5) (N := some 45) (v := ?_) (a' := ?_) #[true, true, true, true, true, true, false, false, false, false, false, false, false, false, false, false, false, false, false, false, false, false, false, false] rfl rfl (by kernel_rfl) (fun _ _ _ h => h) (Or.inl ⟨by rfl, ?_⟩) hHeld ?_ ?_
          rotate_left; · rintro w' ⟨s0, s1, s2, s3⟩; go_simp; with_reducible rfl
          rotate_left; · simp only [Act.put, List.setIfInBounds_toArray, List.set_cons_zero, List.set_cons_succ, i64_w, i32_w]; rfl
          refine pure_ (i := 6) (N := some 46) (v := ?_) (a' := ?_) #[true, true, true, true, true, true, true, false, false, false, false, false, false, false, false, false, false, false, false, false, false, false, false, false] rfl rfl (by kernel_rfl) (fun _ _ _ h => h) (Or.inl ⟨by rfl, ?_⟩) ?_ ?_
          rotate_left; · intro w'; go_simp; with_reducible rfl
          rotate_left; · simp only [Act.put, List.setIfInBounds_toArray, List.set_cons_zero, List.set_cons_succ, i64_w, i32_w]; rfl
          refine pure_ (i := 7) (N := some 47) (v := ?_) (a' := ?_) #[true, true, true, true, true, true, true, true, false, false, false, false, false, false, false, false, false, false, false, false, false, false, false, false] rfl rfl (by kernel_rfl) (fun _ _ _ h => h) (Or.inl ⟨by rfl, ?_⟩) ?_ ?_
          rotate_left; · intro w'; go_simp; with_reducible rfl
          rotate_left; · simp only [Act.put, List.setIfInBounds_toArray, List.set_cons_zero, List.set_cons_succ, i64_w, i32_w]; rfl
          refine pure_ (i := 8) (N := some 48) (v := ?_) (a' := ?_) #[true, true, true, true, true, true, true, true, true, false, false, false, false, false, false, false, false, false, false, false, false, false, false, false] rfl rfl (by kernel_rfl) (fun _ _ _ h => h) (Or.inl ⟨by rfl, ?_⟩) ?_ ?_
          rotate_left; · intro w'; go_simp; with_reducible rfl
          rotate_left; · simp only [Act.put, List.setIfInBounds_toArray, List.set_cons_zero, List.set_cons_succ, i64_w, i32_w]; rfl
          refine take_ (i := 9) (N := some 49) (v := ?_) (a' := ?_) #[true, true, true, true, true, true, true, true, true, true, false, false, false, false, false, false, false, false, false, false, false, false, false, false] rfl rfl (by kernel_rfl) (fun _ _ _ h => h) (Or.inl ⟨by rfl, ?_⟩) hHeld ?_ ?_
          rotate_left; · rintro w' ⟨s0, s1, s2, s3⟩; go_simp; with_reducible rfl
          rotate_left; · simp only [Act.put, List.setIfInBounds_toArray, List.set_cons_zero, List.set_cons_succ, i64_w, i32_w]; rfl
          refine pure_ (i := 10) (N := some 50) (v := ?_) (a' := ?_) #[true, true, true, true, true, true, true, true, true, true, true, false, false, false, false, false, false, false, false, false, false, false, false, false] rfl rfl (by kernel_rfl) (fun _ _ _ h => h) (Or.inl ⟨by rfl, ?_⟩) ?_ ?_
          rotate_left; · intro w'; go_simp; with_reducible rfl
          rotate_left; · simp only [Act.put, List.setIfInBounds_toArray, List.set_cons_zero, List.set_cons_succ, i64_w, i32_w]; rfl
          refine take_ (i := 11) (N := some 51) (v := ?_) (a' := ?_) #[true, true, true, true, true, true, true, true, true, true, true, true, false, false, false, false, false, false, false, false, false, false, false, false] rfl rfl (by kernel_rfl) (fun _ _ _ h => h) (Or.inl ⟨by rfl, ?_⟩) hHeld ?_ ?_
          rotate_left; · rintro w' ⟨s0, s1, s2, s3⟩; go_simp; with_reducible rfl
          rotate_left; · simp only [Act.put, List.setIfInBounds_toArray, List.set_cons_zero, List.set_cons_succ, i64_w, i32_w]; rfl
          refine pure_ (i := 12) (N := some 52) (v := ?_) (a' := ?_) #[true, true, true, true, true, true, true, true, true, true, true, true, true, false, false, false, false, false, false, false, false, false, false, false] rfl rfl (by kernel_rfl) (fun _ _ _ h => h) (Or.inl ⟨by rfl, ?_⟩) ?_ ?_
          rotate_left; · intro w'; go_simp; with_reducible rfl
          rotate_left; · simp only [Act.put, List.setIfInBounds_toArray, List.set_cons_zero, List.set_cons_succ, i64_w, i32_w]; rfl
          refine take_ (i := 13) (N := some 53) (v := ?_) (a' := ?_) #[true, true, true, true, true, true, true, true, true, true, true, true, true, true, false, false, false, false, false, false, false, false, false, false] rfl rfl (by kernel_rfl) (fun _ _ _ h => h) (Or.inl ⟨by rfl, ?_⟩) hHeld ?_ ?_
          rotate_left; · rintro w' ⟨s0, s1, s2, s3⟩; go_simp; with_reducible rfl
          rotate_left; · simp only [Act.put, List.setIfInBounds_toArray, List.set_cons_zero, List.set_cons_succ, i64_w, i32_w]; rfl
          refine pure_ (i := 14) (N := some 54) (v := ?_) (a' := ?_) #[true, true, true, true, true, true, true, true, true, true, true, true, true, true, true, false, false, false, false, false, false, false, false, false] rfl rfl (by kernel_rfl) (fun _ _ _ h => h) (Or.inl ⟨by rfl, ?_⟩) ?_ ?_
          rotate_left; · intro w'; go_simp; with_reducible rfl
          rotate_left; · simp only [Act.put, List.setIfInBounds_toArray, List.set_cons_zero, List.set_cons_succ, i64_w, i32_w]; rfl
          refine pure_ (i := 15) (N := some 55) (v := ?_) (a' := ?_) #[true, true, true, true, true, true, true, true, true, true, true, true, true, true, true, true, false, false, false, false, false, false, false, false] rfl rfl (by kernel_rfl) (fun _ _ _ h => h) (Or.inl ⟨by rfl, ?_⟩) ?_ ?_
          rotate_left; · intro w'; go_simp; with_reducible rfl
          rotate_left; · simp only [Act.put, List.setIfInBounds_toArray, List.set_cons_zero, List.set_cons_succ, i64_w, i32_w]; rfl
          refine pure_ (i := 16) (N := some 56) (v := ?_) (a' := ?_) #[true, true, true, true, true, true, true, true, true, true, true, true, true, true, true, true, true, false, false, false, false, false, false, false] rfl rfl (by kernel_rfl) (fun _ _ _ h => h) (Or.inl ⟨by rfl, ?_⟩) ?_ ?_
          rotate_left; · intro w'; go_simp; with_reducible rfl
          rotate_left; · simp only [Act.put, List.setIfInBounds_toArray, List.set_cons_zero, List.set_cons_succ, i64_w, i32_w]; rfl
          refine take_ (i := 17) (N := some 57) (v := ?_) (a' := ?_) #[true, true, true, true, true, true, true, true, true, true, true, true, true, true, true, true, true, true, false, false, false, false, false, false] rfl rfl (by kernel_rfl) (fun _ _ _ h => h) (Or.inl ⟨by rfl, ?_⟩) hHeld ?_ ?_
          rotate_left; · rintro w' ⟨s0, s1, s2, s3⟩; go_simp; with_reducible rfl
          rotate_left; · simp only [Act.put, List.setIfInBounds_toArray, List.set_cons_zero, List.set_cons_succ, i64_w, i32_w]; rfl
          refine pure_ (i := 18) (N := some 58) (v := ?_) (a' := ?_) #[true, true, true, true, true, true, true, true, true, true, true, true, true, true, true, true, true, true, true, false, false, false, false, false] rfl rfl (by kernel_rfl) (fun _ _ _ h => h) (Or.inl ⟨by rfl, ?_⟩) ?_ ?_
          rotate_left; · intro w'; go_simp; with_reducible rfl
          rotate_left; · simp only [Act.put, List.setIfInBounds_toArray, List.set_cons_zero, List.set_cons_succ, i64_w, i32_w]; rfl
          refine pure_ (i := 19) (N := some 59) (v := ?_) (a' := ?_) #[true, true, true, true, true, true, true, true, true, true, true, true, true, true, true, true, true, true, true, true, false, false, false, false] rfl rfl (by kernel_rfl) (fun _ _ _ h => h) (Or.inl ⟨by rfl, ?_⟩) ?_ ?_
          rotate_left; · intro w'; go_simp; with_reducible rfl
          rotate_left; · simp only [Act.put, List.setIfInBounds_toArray, List.set_cons_zero, List.set_cons_succ, i64_w, i32_w]; rfl
          refine one_ (i := 20) (N := some 60) #[true, true, true, true, true, true, true, true, true, true, true, true, true, true, true, true, true, true, true, true, true, false, false, false] rfl rfl (by kernel_rfl) (by decide) (fun K hK => ?_)
          refine value_ (w1 := w6) (v := .slice (some ⟨w5.drew.heap.size, 0, none⟩) 1 1) (by rfl) rfl ?_ ?_
          · rw [hw6]; go_simp
          refine hK.out _ _ (⟨(HW5.out.cell (World.block_lt_of_cell? w5 _ c0)).trans c0, (HW5.out.cell (World.block_lt_of_cell? w5 _ c1)).trans c1, (HW5.out.cell (World.block_lt_of_cell? w5 _ b0)).trans b0, (HW5.out.cell (World.block_lt_of_cell? w5 _ hc5)).trans hc5⟩) (fun hHeld => ?_)
          clear hK K
          refine norm_ (a' := ?_) ?_ ?_; rotate_left; · show Act.put _ (some 60) _ = _; simp only [Act.put, List.setIfInBounds_toArray, List.set_cons_zero, List.set_cons_succ, i64_w, i32_w]; rfl
          refine one_ (i := 21) (N := some 61) #[true, true, true, true, true, true, true, true, true, true, true, true, true, true, true, true, true, true, true, true, true, true, false, false] rfl rfl (by kernel_rfl) (by decide) (fun K hK => ?_)
          refine Kd.R_append_rows_step KI (Rr := fun (x : Int) cs => cs = [Value.int .i64 x]) (w0 := w) w.heap.size (by rfl) _ _ 23 3 (.int .i64 0) 8 rfl Try.underlying23 info3 rfl (by decide) (by decide) _ (rowAt (addE E1 e.f0 (tt1.length : Int)) e.f1) [(wrap64 ((tt1.length : Int) + 1))] (some ⟨w5.drew.heap.size, 0, none⟩) 1 1 ok5 (fun _ => False) rfl rfl (HRR5.out _ HW5.out) (by rw [hw6]; exact lit_reads w5.drew [(wrap64 ((tt1.length : Int) + 1))] (by simp)) (fun _ _ h => h) (fun _ h => h.elim) (fun k hk => HOF5.out k (Nat.le_trans HW5.out.size hk)) (below_then HJ5.out.mov HJ5.out.mov.size HW5.out) (below_then HJ5.out.mov HJ5.out.mov.size HW5.out).size (by have := HG5.out.2.2.1; simp; omega) ?_
          intro v7 w7 hq hB_ hgr hat
          obtain ⟨A27, c27, ev7⟩ := Kd.R_slice hq; subst ev7
          obtain ⟨hgw, hf7, hc7, hty, hN⟩ := HBK5.out HW5.out hq hgr
          have HN7 := Aside0.mk hN
          have BX7 : Aside0 (w7.heap[b7]? = some (.cells #[.int .i64 e.f0, .int .i64 e.f1, .int .i64 e.f2] 170 (0, 0))) := ⟨(hgr.block b7 (Nat.lt_of_lt_of_le (blk_lt BX5.out) HW5.out.size) (fun e_ => by obtain ⟨_, c3, h3⟩ := hty b7 e_.symm; rw [BX5.out] at h3; injection h3 with h3; injection h3 with _ h3; exact absurd h3 (by decide))).trans (blk_below' BX5.out HW5.out)⟩
          have HGW7 := Aside0.mk hgw
          clear hq hB_ hgr hat hgw hty hN HBK5 HRR5 HOF5 HJ5 BX5 c0 c1 b0 hc5
          refine hK.out _ _ (⟨blk_cell HGW7.out 0 _ rfl, blk_cell HGW7.out 1 _ rfl, blk_cell BX7.out 1 _ rfl, hc7⟩) (fun hHeld => ?_)
          clear hK K
          refine norm_ (a' := ?_) ?_ ?_; rotate_left; · show Act.put _ (some 61) _ = _; simp only [Act.put, List.setIfInBounds_toArray, List.set_cons_zero, List.set_cons_succ, i64_w, i32_w]; rfl
          refine pure_ (i := 22) (N := some 62) (v := ?_) (a' := ?_) #[true, true, true, true, true, true, true, true, true, true, true, true, true, true, true, true, true, true, true, true, true, true, true, false] rfl rfl (by kernel_rfl) (fun _ _ _ h => h) (Or.inl ⟨by rfl, ?_⟩) ?_ ?_
          rotate_left; · intro w'; go_simp; with_reducible rfl
          rotate_left; · simp only [Act.put, List.setIfInBounds_toArray, List.set_cons_zero, List.set_cons_succ, i64_w, i32_w]; rfl
          refine last_ (i := 23) (N := none) #[true, true, true, true, true, true, true, true, true, true, true, true, true, true, true, true, true, true, true, true, true, true, true, true] rfl rfl (by kernel_rfl) (by decide) (fun K hK => ?_)
          obtain ⟨w8, hw8⟩ : ∃ w_, w_ = w7.setCell ⟨bE, e.f1.toNat, none⟩ (.slice A27 (rowAt (addE E1 e.f0 (tt1.length : Int)) e.f1 ++ [(wrap64 ((tt1.length : Int) + 1))]).length c27) := ⟨_, rfl⟩
          refine skip_ (w1 := w8) (by rfl) rfl ?_ ?_
          · rw [hw8]; go_simp
          have HJ8 := HN7; rw [← hw8] at HJ8
          have BX8 : Aside0 (w8.heap[b7]? = some (.cells #[.int .i64 e.f0, .int .i64 e.f1, .int .i64 e.f2] 170 (0, 0))) := ⟨by rw [hw8]; exact blk_far' BX7.out HNB.out _ _⟩
          clear hw6 hw8 HN7 BX7 hf7 hc7 p0 p1 HGW7 HD5 HW5 hHeld
          refine hK.out _ _ ?_
          clear hK K
          refine done_ (by kernel_rfl) ?_
          have c0 := blk_cell HJ8.out.hg 1 _ rfl; have b1 := blk_cell BX8.out 1 _ rfl; have b0 := blk_cell BX8.out 0 _ rfl
          have HD8 : Aside0 (Below w8.heap.size w8 w8.drew) := ⟨below_drew (Below.refl _ _)⟩
          obtain ⟨w9, hw9⟩ : ∃ w_, w_ = (w8.drew.alloc (.cells #[.int .i64 e.f1, .int .i64 e.f0] 3)) := ⟨_, rfl⟩
          have HW8 : Aside0 (Below w8.heap.size w8 w9) := ⟨by rw [hw9]; exact below_alloc HD8.out _⟩
          obtain ⟨hRt, hft, hbt⟩ := HJ8.out.tt_app HW8.out
          have HRT8 := Aside0.mk hRt; have HFT8 := Aside0.mk hft; have HBT8 := Aside0.mk (@hbt); clear hRt hft hbt
          go_wp2
          refine start_ (n := 14) (S := fun w' => w'.cell? ⟨g, 1, none⟩ = some (.slice AT tt1.length cT) ∧ w'.cell? ⟨b7, 1, none⟩ = some (.int .i64 e.f1) ∧ w'.cell? ⟨b7, 0, none⟩ = some (.int .i64 e.f0)) (ds := [13]) #[false, false, false, false, false, false, false, false, false, false, false, false, false, false] (by kernel_rfl) rfl rfl (⟨(HD8.out.cell (World.block_lt_of_cell? w8 _ c0)).trans c0, (HD8.out.cell (World.block_lt_of_cell? w8 _ b1)).trans b1, (HD8.out.cell (World.block_lt_of_cell? w8 _ b0)).trans b0⟩) (fun hHeld => ?_)
          refine pure_ (i := 0) (N := some 63) (v := ?_) (a' := ?_) #[true, false, false, false, false, false, false, false, false, false, false, false, false, false] rfl rfl (by kernel_rfl) (fun _ _ _ h => h) (Or.inl ⟨by rfl, ?_⟩) ?_ ?_
          rotate_left; · intro w'; go_simp; with_reducible rfl
          rotate_left; · simp only [Act.put, List.setIfInBounds_toArray, List.set_cons_zero, List.set_cons_succ, i64_w, i32_w]; rfl
          refine pure_ (i := 1) (N := some 64) (v := ?_) (a' := ?_) #[true, true, false, false, false, false, false, false, false, false, false, false, false, false] rfl rfl (by kernel_rfl) (fun _ _ _ h => h) (Or.inl ⟨by rfl, ?_⟩) ?_ ?_
          rotate_left; · intro w'; go_simp; with_reducible rfl
          rotate_left; · simp only [Act.put, List.setIfInBounds_toArray, List.set_cons_zero, List.set_cons_succ, i64_w, i32_w]; rfl
          refine pure_ (i := 2) (N := some 65) (v := ?_) (a' := ?_) #[true, true, true, false, false, false, false, false, false, false, false, false, false, false] rfl rfl (by kernel_rfl) (fun _ _ _ h => h) (Or.inl ⟨by rfl, ?_⟩) ?_ ?_
          rotate_left; · intro w'; go_simp; with_reducible rfl
          rotate_left; · simp only [Act.put, List.setIfInBounds_toArray, List.set_cons_zero, List.set_cons_succ, i64_w, i32_w]; rfl
          refine pure_ (i := 3) (N := some 66) (v := ?_) (a' := ?_) #[true, true, true, true, false, false, false, false, false, false, false, false, false, false] rfl rfl (by kernel_rfl) (fun _ _ _ h => h) (Or.inl ⟨by rfl, ?_⟩) ?_ ?_
          rotate_left; · intro w'; go_simp; with_reducible rfl
          rotate_left; · simp only [Act.put, List.setIfInBounds_toArray, List.set_cons_zero, List.set_cons_succ, i64_w, i32_w]; rfl
          refine take_ (i := 4) (N := some 67) (v := ?_) (a' := ?_) #[true, true, true, true, true, false, false, false, false, false, false, false, false, false] rfl rfl (by kernel_rfl) (fun _ _ _ h => h) (Or.inl ⟨by rfl, ?_⟩) hHeld ?_ ?_
          rotate_left; · rintro w' ⟨s0, s1, s2⟩; go_simp; with_reducible rfl
          rotate_left; · simp only [Act.put, List.setIfInBounds_toArray, List.set_cons_zero, List.set_cons_succ, i64_w, i32_w]; rfl
          refine pure_ (i := 5) (N := some 68) (v := ?_) (a' := ?_) #[true, true, true, true, true, true, false, false, false, false, false, false, false, false] rfl rfl (by kernel_rfl) (fun _ _ _ h => h) (Or.inl ⟨by rfl, ?_⟩) ?_ ?_
          rotate_left; · intro w'; go_simp; with_reducible rfl
          rotate_left; · simp only [Act.put, List.setIfInBounds_toArray, List.set_cons_zero, List.set_cons_succ, i64_w, i32_w]; rfl
          refine take_ (i := 6) (N := some 69) (v := ?_) (a' := ?_) #[true, true, true, true, true, true, true, false, false, false, false, false, false, false] rfl rfl (by kernel_rfl) (fun _ _ _ h => h) (Or.inl ⟨by rfl, ?_⟩) hHeld ?_ ?_
          rotate_left; · rintro w' ⟨s0, s1, s2⟩; go_simp; with_reducible rfl
          rotate_left; · simp only [Act.put, List.setIfInBounds_toArray, List.set_cons_zero, List.set_cons_succ, i64_w, i32_w]; rfl
          refine pure_ (i := 7) (N := some 70) (v := ?_) (a' := ?_) #[true, true, true, true, true, true, true, true, false, false, false, false, false, false] rfl rfl (by kernel_rfl) (fun _ _ _ h => h) (Or.inl ⟨by rfl, ?_⟩) ?_ ?_
          rotate_left; · intro w'; go_simp; with_reducible rfl
          rotate_left; · simp only [Act.put, List.setIfInBounds_toArray, List.set_cons_zero, List.set_cons_succ, i64_w, i32_w]; rfl
          refine take_ (i := 8) (N := some 71) (v := ?_) (a' := ?_) #[true, true, true, true, true, true, true, true, true, false, false, false, false, false] rfl rfl (by kernel_rfl) (fun _ _ _ h => h) (Or.inl ⟨by rfl, ?_⟩) hHeld ?_ ?_
          rotate_left; · rintro w' ⟨s0, s1, s2⟩; go_simp; with_reducible rfl
          rotate_left; · simp only [Act.put, List.setIfInBounds_toArray, List.set_cons_zero, List.set_cons_succ, i64_w, i32_w]; rfl
          refine one_ (i := 9) (N := some 72) #[true, true, true, true, true, true, true, true, true, true, false, false, false, false] rfl rfl (by kernel_rfl) (by decide) (fun K hK => ?_)
          refine value_ (w1 := w9) (v := .slice (some ⟨w8.drew.heap.size, 0, none⟩) 2 2) (by rfl) rfl ?_ ?_
          · rw [hw9]; go_simp
          refine hK.out _ _ (⟨(HW8.out.cell (World.block_lt_of_cell? w8 _ c0)).trans c0, (HW8.out.cell (World.block_lt_of_cell? w8 _ b1)).trans b1, (HW8.out.cell (World.block_lt_of_cell? w8 _ b0)).trans b0⟩) (fun hHeld => ?_)
          clear hK K
          refine norm_ (a' := ?_) ?_ ?_; rotate_left; · show Act.put _ (some 72) _ = _; simp only [Act.put, List.setIfInBounds_toArray, List.set_cons_zero, List.set_cons_succ, i64_w, i32_w]; rfl
          refine one_ (i := 10) (N := some 73) #[true, true, true, true, true, true, true, true, true, true, true, false, false, false] rfl rfl (by kernel_rfl) (by decide) (fun K hK => ?_)
          refine Kd.R_append_rows_step KI (Rr := fun (x : Int) cs => cs = [Value.int .i64 x]) (w0 := w) w.heap.size (by rfl) _ _ 23 3 (.int .i64 0) 8 rfl Try.underlying23 info3 rfl (by decide) (by decide) _ tt1 [e.f1, e.f0] (some ⟨w8.drew.heap.size, 0, none⟩) 2 2 _ (fun _ => False) rfl rfl HRT8.out (by rw [hw9]; exact lit_reads w8.drew [e.f1, e.f0] (by simp)) (fun _ _ h => h) (fun _ h => h.elim) HFT8.out (below_then HJ8.out.mov HJ8.out.mov.size HW8.out) (below_then HJ8.out.mov HJ8.out.mov.size HW8.out).size (by have := HG5.out.2.2.2.1; simp; omega) ?_
          intro v10 w10 hq hB_ hgr hat
          obtain ⟨A30, c30, ev10⟩ := Kd.R_slice hq; subst ev10
          obtain ⟨hgw, hty, hN⟩ := HBT8.out hq hgr hat
          have HN10 := Aside0.mk (hN 1 rfl)
          have hc10 := blk_cell hgw 1 _ rfl; have hf10 := blk_free hgw 1
          have BX10 : Aside0 (w10.heap[b7]? = some (.cells #[.int .i64 e.f0, .int .i64 e.f1, .int .i64 e.f2] 170 (0, 0))) := ⟨(hgr.block b7 (Nat.lt_of_lt_of_le (blk_lt BX8.out) HW8.out.size) (fun e_ => by obtain ⟨c3, h3⟩ := hty b7 e_.symm; rw [BX8.out] at h3; injection h3 with h3; injection h3 with _ h3; exact absurd h3 (by decide))).trans (blk_below' BX8.out HW8.out)⟩
          clear hq hB_ hgr hat hgw hty hN HBT8 HRT8 HFT8 HJ8 BX8 c0 b1 b0
          refine hK.out _ _ (⟨hc10, blk_cell BX10.out 1 _ rfl, blk_cell BX10.out 0 _ rfl⟩) (fun hHeld => ?_)
          clear hK K
          refine norm_ (a' := ?_) ?_ ?_; rotate_left; · show Act.put _ (some 73) _ = _; simp only [Act.put, List.setIfInBounds_toArray, List.set_cons_zero, List.set_cons_succ, i64_w, i32_w]; rfl
          refine pure_ (i := 11) (N := some 74) (v := ?_) (a' := ?_) #[true, true, true, true, true, true, true, true, true, true, true, true, false, false] rfl rfl (by kernel_rfl) (fun _ _ _ h => h) (Or.inl ⟨by rfl, ?_⟩) ?_ ?_
          rotate_left; · intro w'; go_simp; with_reducible rfl
          rotate_left; · simp only [Act.put, List.setIfInBounds_toArray, List.set_cons_zero, List.set_cons_succ, i64_w, i32_w]; rfl
          refine pure_ (i := 12) (N := some 75) (v := ?_) (a' := ?_) #[true, true, true, true, true, true, true, true, true, true, true, true, true, false] rfl rfl (by kernel_rfl) (fun _ _ _ h => h) (Or.inl ⟨by rfl, ?_⟩) ?_ ?_
          rotate_left; · intro w'; go_simp; with_reducible rfl
          rotate_left; · simp only [Act.put, List.setIfInBounds_toArray, List.set_cons_zero, List.set_cons_succ, i64_w, i32_w]; rfl
          refine last_ (i := 13) (N := none) #[true, true, true, true, true, true, true, true, true, true, true, true, true, true] rfl rfl (by kernel_rfl) (by decide) (fun K hK => ?_)
          obtain ⟨w11, hw11⟩ : ∃ w_, w_ = w10.setCell ⟨g, 1, none⟩ (.slice A30 (tt1 ++ [e.f1, e.f0]).length c30) := ⟨_, rfl⟩
          refine skip_ (w1 := w11) (by rfl) rfl ?_ ?_
          · rw [hw11]; go_simp
          have HJ11 := HN10; rw [← hw11] at HJ11
          have BX11 : Aside0 (w11.heap[b7]? = some (.cells #[.int .i64 e.f0, .int .i64 e.f1, .int .i64 e.f2] 170 (0, 0))) := ⟨by rw [hw11]; exact blk_far' BX10.out HNG.out _ _⟩
          clear hw9 hw11 HN10 BX10 hf10 hc10 HD8 HW8 hHeld
          refine hK.out _ _ ?_
          clear hK K
          refine done_ (by kernel_rfl) ?_
          obtain ⟨AL, cL, eL⟩ := Kd.R_slice HJ11.out.hL; subst eL
          have c0 := blk_cell HJ11.out.hg 2 _ rfl; have b2 := blk_cell BX11.out 2 _ rfl
          have HD11 : Aside0 (Below w11.heap.size w11 w11.drew) := ⟨below_drew (Below.refl _ _)⟩
          obtain ⟨w12, hw12⟩ : ∃ w_, w_ = (w11.drew.alloc (.cells #[.int .i64 e.f2, .int .i64 0] 3)) := ⟨_, rfl⟩
          have HW11 : Aside0 (Below w11.heap.size w11 w12) := ⟨by rw [hw12]; exact below_alloc HD11.out _⟩
          obtain ⟨hRt, hft, hbt⟩ := HJ11.out.left_app HW11.out
          have HRT11 := Aside0.mk hRt; have HFT11 := Aside0.mk hft; have HBT11 := Aside0.mk (@hbt); clear hRt hft hbt
          go_wp2
          refine start_ (n := 12) (S := fun w' => w'.cell? ⟨g, 2, none⟩ = some (.slice AL left1.length cL) ∧ w'.cell? ⟨b7, 2, none⟩ = some (.int .i64 e.f2)) (ds := [11]) #[false, false, false, false, false, false, false, false, false, false, false, false] (by kernel_rfl) rfl rfl (⟨(HD11.out.cell (World.block_lt_of_cell? w11 _ c0)).trans c0, (HD11.out.cell (World.block_lt_of_cell? w11 _ b2)).trans b2⟩) (fun hHeld => ?_)
          refine pure_ (i := 0) (N := some 76) (v := ?_) (a' := ?_) #[true, false, false, false, false, false, false, false, false, false, false, false] rfl rfl (by kernel_rfl) (fun _ _ _ h => h) (Or.inl ⟨by rfl, ?_⟩) ?_ ?_
          rotate_left; · intro w'; go_simp; with_reducible rfl
          rotate_left; · simp only [Act.put, List.setIfInBounds_toArray, List.set_cons_zero, List.set_cons_succ, i64_w, i32_w]; rfl
          refine pure_ (i := 1) (N := some 77) (v := ?_) (a' := ?_) #[true, true, false, false, false, false, false, false, false, false, false, false] rfl rfl (by kernel_rfl) (fun _ _ _ h => h) (Or.inl ⟨by rfl, ?_⟩) ?_ ?_
          rotate_left; · intro w'; go_simp; with_reducible rfl
          rotate_left; · simp only [Act.put, List.setIfInBounds_toArray, List.set_cons_zero, List.set_cons_succ, i64_w, i32_w]; rfl
          refine pure_ (i := 2) (N := some 78) (v := ?_) (a' := ?_) #[true, true, true, false, false, false, false, false, false, false, false, false] rfl rfl (by kernel_rfl) (fun _ _ _ h => h) (Or.inl ⟨by rfl, ?_⟩) ?_ ?_
          rotate_left; · intro w'; go_simp; with_reducible rfl
          rotate_left; · simp only [Act.put, List.setIfInBounds_toArray, List.set_cons_zero, List.set_cons_succ, i64_w, i32_w]; rfl
          refine pure_ (i := 3) (N := some 79) (v := ?_) (a' := ?_) #[true, true, true, true, false, false, false, false, false, false, false, false] rfl rfl (by kernel_rfl) (fun _ _ _ h => h) (Or.inl ⟨by rfl, ?_⟩) ?_ ?_
          rotate_left; · intro w'; go_simp; with_reducible rfl
          rotate_left; · simp only [Act.put, List.setIfInBounds_toArray, List.set_cons_zero, List.set_cons_succ, i64_w, i32_w]; rfl
          refine take_ (i := 4) (N := some 80) (v := ?_) (a' := ?_) #[true, true, true, true, true, false, false, false, false, false, false, false] rfl rfl (by kernel_rfl) (fun _ _ _ h => h) (Or.inl ⟨by rfl, ?_⟩) hHeld ?_ ?_
          rotate_left; · rintro w' ⟨s0, s1⟩; go_simp; with_reducible rfl
          rotate_left; · simp only [Act.put, List.setIfInBounds_toArray, List.set_cons_zero, List.set_cons_succ, i64_w, i32_w]; rfl
          refine pure_ (i := 5) (N := some 81) (v := ?_) (a' := ?_) #[true, true, true, true, true, true, false, false, false, false, false, false] rfl rfl (by kernel_rfl) (fun _ _ _ h => h) (Or.inl ⟨by rfl, ?_⟩) ?_ ?_
          rotate_left; · intro w'; go_simp; with_reducible rfl
          rotate_left; · simp only [Act.put, List.setIfInBounds_toArray, List.set_cons_zero, List.set_cons_succ, i64_w, i32_w]; rfl
          refine take_ (i := 6) (N := some 82) (v := ?_) (a' := ?_) #[true, true, true, true, true, true, true, false, false, false, false, false] rfl rfl (by kernel_rfl) (fun _ _ _ h => h) (Or.inl ⟨by rfl, ?_⟩) hHeld ?_ ?_
          rotate_left; · rintro w' ⟨s0, s1⟩; go_simp; with_reducible rfl
          rotate_left; · simp only [Act.put, List.setIfInBounds_toArray, List.set_cons_zero, List.set_cons_succ, i64_w, i32_w]; rfl
          refine one_ (i := 7) (N := some 83) #[true, true, true, true, true, true, true, true, false, false, false, false] rfl rfl (by kernel_rfl) (by decide) (fun K hK => ?_)
          refine value_ (w1 := w12) (v := .slice (some ⟨w11.drew.heap.size, 0, none⟩) 2 2) (by rfl) rfl ?_ ?_
          · rw [hw12]; go_simp
          refine hK.out _ _ (⟨(HW11.out.cell (World.block_lt_of_cell? w11 _ c0)).trans c0, (HW11.out.cell (World.block_lt_of_cell? w11 _ b2)).trans b2⟩) (fun hHeld => ?_)
          clear hK K
          refine norm_ (a' := ?_) ?_ ?_; rotate_left; · show Act.put _ (some 83) _ = _; simp only [Act.put, List.setIfInBounds_toArray, List.set_cons_zero, List.set_cons_succ, i64_w, i32_w]; rfl
          refine one_ (i := 8) (N := some 84) #[true, true, true, true, true, true, true, true, true, false, false, false] rfl rfl (by kernel_rfl) (by decide) (fun K hK => ?_)
          refine Kd.R_append_rows_step KI (Rr := fun (x : Int) cs => cs = [Value.int .i64 x]) (w0 := w) w.heap.size (by rfl) _ _ 23 3 (.int .i64 0) 8 rfl Try.underlying23 info3 rfl (by decide) (by decide) _ left1 [e.f2, 0] (some ⟨w11.drew.heap.size, 0, none⟩) 2 2 _ (fun _ => False) rfl rfl HRT11.out (by rw [hw12]; exact lit_reads w11.drew [e.f2, 0] (by simp)) (fun _ _ h => h) (fun _ h => h.elim) HFT11.out (below_then HJ11.out.mov HJ11.out.mov.size HW11.out) (below_then HJ11.out.mov HJ11.out.mov.size HW11.out).size (by have := HG5.out.2.2.2.2; simp; omega) ?_
          intro v13 w13 hq hB_ hgr hat
          obtain ⟨A33, c33, ev13⟩ := Kd.R_slice hq; subst ev13
          obtain ⟨hgw, hty, hN⟩ := HBT11.out hq hgr hat
          have HN13 := Aside0.mk (hN 2 rfl)
          have hc13 := blk_cell hgw 2 _ rfl; have hf13 := blk_free hgw 2
          have BX13 : Aside0 (w13.heap[b7]? = some (.cells #[.int .i64 e.f0, .int .i64 e.f1, .int .i64 e.f2] 170 (0, 0))) := ⟨(hgr.block b7 (Nat.lt_of_lt_of_le (blk_lt BX11.out) HW11.out.size) (fun e_ => by obtain ⟨c3, h3⟩ := hty b7 e_.symm; rw [BX11.out] at h3; injection h3 with h3; injection h3 with _ h3; exact absurd h3 (by decide))).trans (blk_below' BX11.out HW11.out)⟩
          clear hq hB_ hgr hat hgw hty hN HBT11 HRT11 HFT11 HJ11 BX11 c0 b2
          refine hK.out _ _ (⟨hc13, blk_cell BX13.out 2 _ rfl⟩) (fun hHeld => ?_)
          clear hK K
          refine norm_ (a' := ?_) ?_ ?_; rotate_left; · show Act.put _ (some 84) _ = _; simp only [Act.put, List.setIfInBounds_toArray, List.set_cons_zero, List.set_cons_succ, i64_w, i32_w]; rfl
          refine pure_ (i := 9) (N := some 85) (v := ?_) (a' := ?_) #[true, true, true, true, true, true, true, true, true, true, false, false] rfl rfl (by kernel_rfl) (fun _ _ _ h => h) (Or.inl ⟨by rfl, ?_⟩) ?_ ?_
          rotate_left; · intro w'; go_simp; with_reducible rfl
          rotate_left; · simp only [Act.put, List.setIfInBounds_toArray, List.set_cons_zero, List.set_cons_succ, i64_w, i32_w]; rfl
          refine pure_ (i := 10) (N := some 86) (v := ?_) (a' := ?_) #[true, true, true, true, true, true, true, true, true, true, true, false] rfl rfl (by kernel_rfl) (fun _ _ _ h => h) (Or.inl ⟨by rfl, ?_⟩) ?_ ?_
          rotate_left; · intro w'; go_simp; with_reducible rfl
          rotate_left; · simp only [Act.put, List.setIfInBounds_toArray, List.set_cons_zero, List.set_cons_succ, i64_w, i32_w]; rfl
          refine last_ (i := 11) (N := none) #[true, true, true, true, true, true, true, true, true, true, true, true] rfl rfl (by kernel_rfl) (by decide) (fun K hK => ?_)
          obtain ⟨w14, hw14⟩ : ∃ w_, w_ = w13.setCell ⟨g, 2, none⟩ (.slice A33 (left1 ++ [e.f2, 0]).length c33) := ⟨_, rfl⟩
          refine skip_ (w1 := w14) (by rfl) rfl ?_ ?_
          · rw [hw14]; go_simp
          have HJ14 := HN13; rw [← hw14] at HJ14
          have BX14 : Aside0 (w14.heap[b7]? = some (.cells #[.int .i64 e.f0, .int .i64 e.f1, .int .i64 e.f2] 170 (0, 0))) := ⟨by rw [hw14]; exact blk_far' BX13.out HNG.out _ _⟩
          clear hw12 hw14 HN13 BX13 hf13 hc13 HD11 HW11 hHeld
          refine hK.out _ _ ?_
          clear hK K
          refine done_ (by kernel_rfl) ?_
          go_wp2
          go_roundg es.length
          case measure => have := HL3.out.1; omega
          case rel => exact ⟨es, j + 1, _, _, _, _, _, by rw [HL3.out.2.2.2.2], ⟨rfl, HL3.out.2.1, HL3.out.2.2.1, HL3.out.2.2.2.1⟩, H2, ⟨by rw [addE_len, addE_len]; exact HE1.out⟩, HJ14⟩
        · rw [if_neg hg5] at hs
          cases hs
  · rw [if_neg hn] at h
    cases h
end Go.Proofs.Ytclpjlaielphfaa.Flow
end
