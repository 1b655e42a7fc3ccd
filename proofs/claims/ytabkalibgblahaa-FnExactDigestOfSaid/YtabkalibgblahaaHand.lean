/- The walk of the program's own digest loop: its call answers the fold of the digest's step over the bytes of the string and then 3 and 1, for strings of at most 8000 bytes. -/
import Derived.Test.YtabkalibgblahaaPAx0
import Derived.Lib.FrozenHead
import Derived.IntWalk
namespace Go.Proofs.Ytabkalibgblahaa.PA
open Go Go.RowKit Go.Proofs.YtabkalibgblahaaW.PrintWords Go.Proofs.YtabkalibgblahaaW.PrintLast Go.Proofs.YtabkalibgblahaaW.PrintMore
set_option linter.unusedVariables false
set_option linter.unusedSimpArgs false

/-- Cells stored into a row whose marked range lies behind its cells. -/
theorem run_storeCells_mk (P : Program) (g o : Nat) (t : TypeId) (fz : Nat × Nat) : ∀ (vs : List Value) (i : Nat) (cur : Array Value) (w : World), w.heap[g]? = some (.cells cur t fz) → cur.size ≤ fz.1 → o + i + vs.length ≤ cur.size → (∀ v ∈ vs, v.oneCell' = true) →
    (storeCells ⟨g, o, none⟩ vs i).run P w = .ok () (w.setRow g (cur.toList.take (o + i) ++ vs ++ cur.toList.drop (o + i + vs.length)).toArray)
  | [], i, cur, w, hg, _, _, _ => by
    simp only [storeCells, List.append_nil, List.length_nil, Nat.add_zero, List.take_append_drop, Array.toArray_toList]
    rw [setRow_self w g cur t fz hg]
    rfl
  | v :: rest, i, cur, w, hg, hfz, hl, h1 => by
    have hi : o + i < cur.size := by simp at hl; omega
    have hadd : (⟨g, o, none⟩ : Addr).add i = ⟨g, o + i, none⟩ := by unfold Addr.add; split <;> simp_all
    have hcell : w.cell? ⟨g, o + i, none⟩ = some cur[o + i] := by simp [World.cell?, hg, hi]
    have hfro : w.frozen? ⟨g, o + i, none⟩ = false := by
      obtain ⟨lo, hi'⟩ := fz
      simp only [World.frozen?, hg, Bool.and_eq_false_iff, decide_eq_false_iff_not]
      left
      simp only at hfz
      omega
    have hst : (store ((⟨g, o, none⟩ : Addr).add i) v).run P w = .ok () (w.setRow g (cur.setIfInBounds (o + i) v)) := by
      rw [hadd, run_store P w _ v _ (h1 v (by simp)), hcell]
      simp [hfro, setCell_eq_setRow w g (o + i) cur t fz v hg]
    have ih := run_storeCells_mk P g o t fz rest (i + 1) (cur.setIfInBounds (o + i) v) (w.setRow g (cur.setIfInBounds (o + i) v)) (setRow_heap w g cur _ t _ hg) (by simpa using hfz) (by simp at hl ⊢; omega) (fun x hx => h1 x (by simp [hx]))
    simp only [storeCells, Sem.run_bind, hst, Result.andThen_ok, ih, setRow_setRow]
    congr 3
    have e := list_seg_step cur.toList (o + i) v rest (by simp at hl ⊢; omega)
    simpa [Array.toList_setIfInBounds, Nat.add_assoc] using e

/-- append(b, ys..), b a conversion's bytes: what comes reads as the bytes and the news. -/
theorem run_append_marked {P : Program} (w : World) (t ty e : TypeId) (i : TypeInfo) (ht : P.underlying t = some (.slice e)) (hi : P.info? e = some i) (hz : i.zero = some (.int .u8 0))
    (hsize : i.size = 1) (hby : i.bytes = 1) (g n cap : Nat) (cur : Array Value) (fz : Nat × Nat) (hg : w.heap[g]? = some (.cells cur e fz)) (hfz : cur.size ≤ fz.1) (hnc : n ≤ cap) (hcs : cur.size = cap)
    (a : Addr) (m c : Nat) (xs ys : List Int) (hxs : cur.toList.take n = nums .u8 xs) (hl : ys.length = m) (hnews : ∀ j u, (nums .u8 ys)[j]? = some u → w.cell? (a.add j) = some u) (hb : n + m ≤ 140737488355328) :
    ∃ g' cap' w', (Builtin.append_ #[t, t] ty #[.slice (some ⟨g, 0, none⟩) n cap, .slice (some a) m c]).run P w = .ok (.slice (some ⟨g', 0, none⟩) (n + m) cap') w' ∧
      ReadsInt w' .u8 (some ⟨g', 0, none⟩) (n + m) (xs ++ ys) ∧ w.grownBy w' (some g) := by
  have hxl : xs.length = n := by
    have := congrArg List.length hxs
    simp [nums] at this
    omega
  have h1 : ∀ u ∈ nums .u8 ys, u.oneCell' = true := by
    intro u hu
    obtain ⟨y, _, rfl⟩ := List.mem_map.1 hu
    rfl
  have hyl : (nums .u8 ys).length = m * i.size := by rw [nums_length, hl, hsize, Nat.mul_one]
  have reads : ∀ (w1 : World) (g1 : Nat) (cur1 : Array Value) (fz1 : Nat × Nat), w1.heap[g1]? = some (.cells cur1 e fz1) → cur1.toList.take (n + m) = nums .u8 (xs ++ ys) → ReadsInt w1 .u8 (some ⟨g1, 0, none⟩) (n + m) (xs ++ ys) := by
    intro w1 g1 cur1 fz1 hg1 htk
    refine ⟨by rw [List.length_append]; omega, by omega, fun _ => ⟨_, rfl, fun j hj => ?_⟩⟩
    rw [add_plain, cell_of_row w1 g1 j cur1 e fz1 hg1]
    have h2 : (cur1.toList.take (n + m))[j]? = some (.int .u8 ((xs ++ ys).getD j 0)) := by
      rw [htk, nums, List.getElem?_map]
      have hj' : j < (xs ++ ys).length := by rw [List.length_append]; omega
      simp only [List.getElem?_eq_getElem hj', Option.map_some, List.getD_eq_getElem?_getD, Option.getD_some]
    rw [List.getElem?_take, if_pos hj] at h2
    simpa using h2
  by_cases hroom : n + m ≤ cap
  · have hf := run_firstCells_some (P := P) w i.size m a m c (nums .u8 ys) hyl hnews
    have hst := run_storeCells_mk P g (n * i.size) e fz (nums .u8 ys) 0 cur w hg hfz (by rw [nums_length, hsize]; omega) h1
    simp only [Nat.add_zero] at hst
    have hr : (Builtin.append_ #[t, t] ty #[.slice (some ⟨g, 0, none⟩) n cap, .slice (some a) m c]).run P w =
      .ok (.slice (some ⟨g, 0, none⟩) (n + m) cap) (w.setRow g (cur.toList.take (n * i.size) ++ nums .u8 ys ++ cur.toList.drop (n * i.size + (nums .u8 ys).length)).toArray) := by
      simp [Builtin.append_, run_underlying ht, sizeOf, typeInfo, hi, Builtin.lenOf, hroom, hf, Addr.add_lit, hst]
    refine ⟨_, _, _, hr, reads _ g _ fz (setRow_heap w g cur _ e _ hg) ?_, ⟨rfl, rfl, rfl, by simp, fun k _ hk => setRow_other w g k _ (fun e => hk (by simp [e]))⟩⟩
    rw [hsize, Nat.mul_one, hxs, nums_append]
    have : (nums IntKind.u8 xs ++ nums .u8 ys).length = n + m := by rw [List.length_append, nums_length, nums_length]; omega
    rw [← this]
    exact List.take_left
  · have holds : ∀ j u, (nums .u8 xs)[j]? = some u → w.cell? ((⟨g, 0, none⟩ : Addr).add j) = some u := by
      intro j u hu
      rw [add_plain, cell_of_row w g j cur e fz hg]
      rw [← hxs, List.getElem?_take] at hu
      by_cases hj : j < n
      · rw [if_pos hj] at hu
        simpa using hu
      · rw [if_neg hj] at hu
        exact absurd hu (by simp)
    have hr := run_append_grow (P := P) w t ty e i (.int .u8 0) ht hi hz ⟨g, 0, none⟩ n cap (nums .u8 xs) (by rw [nums_length, hsize]; omega) holds a m c (nums .u8 ys) hyl hnews (by omega) (by omega) (growslice_fits (by omega) (by rw [hby]; omega))
    refine ⟨_, _, _, hr, reads _ w.heap.size _ (0, 0) (Go.heap_alloc_new w.drew _) ?_, ⟨rfl, rfl, rfl, by simp, fun k hk _ => Go.heap_alloc_old w.drew _ hk⟩⟩
    simp only [Array.toList_append, List.append_assoc]
    rw [← List.append_assoc, nums_append]
    have : (nums IntKind.u8 xs ++ nums .u8 ys).length = n + m := by rw [List.length_append, nums_length, nums_length]; omega
    rw [← this]
    exact List.take_left

section
variable {P : Program} {ops : Array Oper} {rest : List Oper} {o : Oper} {a : Act} {Q : Exit → Act → World → Prop}
theorem wpList_append_bytes (W : World) (hgd : o.guard = none) (s x : Operand) (t e : TypeId) (i : TypeInfo)
    (ho : o.op = .call { callee := .builtin .append, args := #[s, x], argTypes := #[t, t] })
    (ht : P.underlying t = some (.slice e)) (hi : P.info? e = some i) (hz : i.zero = some (.int .u8 0)) (hsize : i.size = 1) (hby : i.bytes = 1)
    (str : ByteArray) (y0 y1 : Int) (hs : a.eval s = .slice (some ⟨W.heap.size, 0, none⟩) str.size (grownCap W str.size 0 e)) (hx : a.eval x = .slice (some ⟨(Lib.bytesWorld W e str).heap.size, 0, none⟩) 2 2)
    (hl : str.size ≤ 8000)
    (h : ∀ g' cap' w', ReadsInt w' .u8 (some ⟨g', 0, none⟩) (str.size + 2) (bytesOf str ++ [y0, y1]) → Below W.heap.size W w' → wpList P ops Q rest (a.put o.dst (.slice (some ⟨g', 0, none⟩) (str.size + 2) cap')) w') :
    wpList P ops Q (o :: rest) a ((Lib.bytesWorld W e str).alloc (.cells #[.int .u8 y0, .int .u8 y1] e)) := by
  refine wpList_plain hgd fun K hK => ?_
  have hcells : (Lib.bytesCells W e str).size = grownCap W str.size 0 e := by
    have := grownCap_ge W str.size 0 e
    simp only [Lib.bytesCells, Array.size_append, Array.size_map, Array.size_replicate]
    have h2 : str.data.size = str.size := rfl
    omega
  obtain ⟨g', cap', w', hr, hreads, hg⟩ := run_append_marked (P := P) ((Lib.bytesWorld W e str).alloc (.cells #[.int .u8 y0, .int .u8 y1] e)) t o.type e i ht hi hz hsize hby W.heap.size str.size (grownCap W str.size 0 e) (Lib.bytesCells W e str) _
    ((heap_alloc_old _ _ (by rw [Lib.bytesWorld_size]; omega)).trans (Lib.bytesWorld_at_new W e str)) (Nat.le_refl _) (grownCap_ge W str.size 0 e) hcells ⟨(Lib.bytesWorld W e str).heap.size, 0, none⟩ 2 2 (bytesOf str) [y0, y1]
    (by
      have h2 : str.data.size = str.size := rfl
      simp only [Lib.bytesCells, Array.toList_append, Array.toList_map]
      have h3 : (List.map (fun b : UInt8 => Value.int .u8 b.toNat) str.data.toList).length = str.size := by rw [List.length_map, Array.length_toList, h2]
      rw [← h3, List.take_left, bytesOf, nums, List.map_map]
      rfl)
    rfl (by simpa [nums] using World.news_of_block (cs := #[.int .u8 y0, .int .u8 y1]) (t := e) (fr := (0, 0)) (heap_alloc_new (Lib.bytesWorld W e str) (.cells #[.int .u8 y0, .int .u8 y1] e))) (by omega)
  unfold Oper.wp execOp
  simp only [ho, resolve, invoke, builtin, Sem.run_bind, Sem.run_pure, Result.andThen_ok, List.map_toArray, List.map_cons, List.map_nil, hs, hx, hr]
  refine hK _ _ (h g' cap' w' hreads ?_)
  have h1 : Below W.heap.size W ((Lib.bytesWorld W e str).alloc (.cells #[.int .u8 y0, .int .u8 y1] e)) := (bytes_below (Below.refl _ _) (Nat.le_refl _) e str).alloc (by rw [Lib.bytesWorld_size]; omega) _
  exact h1.grown hg (by simp [Lib.bytesWorld_size]; omega) (fun k hk => by cases hk; omega)
end

/-! ### impl_digestOf -/
def digStep (a b : Int) : Int := Int.tmod (wrap64 ((Int.tmod (wrap64 ((wrap64 ((wrap64 (31 * a)) + (wrap64 b))) + 7)) 1000003) * (wrap64 ((wrap64 (Int.tdiv (Int.tmod (wrap64 ((wrap64 ((wrap64 (31 * a)) + (wrap64 b))) + 7)) 1000003) 32)) + 3)))) 1000003
def impl_digestOf.f (a0 : ByteArray) : Option Int := if a0.size ≤ 8000 then some ((bytesOf a0 ++ [3, 1]).foldl digStep (wrap64 (7919 + (a0.size : Int)))) else none

theorem info5h : (Try.prog.info? 5).map (fun i => (i.zero, i.size, i.bytes)) = some (some (.int .u8 0), 1, 1) := by kernel_rfl
set_option maxHeartbeats 8000000 in
set_option maxRecDepth 100000 in
theorem impl_digestOf.calls (a0 : ByteArray) (r : Int) (w : World) (h : impl_digestOf.f a0 = some r) :
    Calls Try.prog 8 #[.string a0] w fun e w' => e = .returned (.int .i64 r) ∧ Below w.heap.size w w' := by
  unfold impl_digestOf.f at h
  by_cases hs : a0.size ≤ 8000
  · rw [if_pos hs] at h
    have hr := Option.some.inj h
    have HRr := Aside0.mk hr
    clear h hr
    have kb := fun W => print_bytes (P := Try.prog) 9 26 5 Try.underlying9 Try.underlying26 Try.underlying5 a0 W
    obtain ⟨i0, hi0, hz0⟩ := Option.map_eq_some_iff.1 info5h
    simp only [Prod.mk.injEq] at hz0
    obtain ⟨hza, hzb, hzc⟩ := hz0
    go_enter Try.func8, Try.ntmps8
    go_wp2_with (at_builtin; refine wpList_append_bytes w rfl _ _ 26 5 i0 rfl Try.underlying26 hi0 hza hzb hzc a0 3 1 rfl rfl hs ?_; intro g' cap' w' hreads hbel)
    have HR := Aside0.mk hreads
    have HB := Aside0.mk hbel
    clear hreads hbel kb hi0 hza hzb hzc
    have e0 : wrap64 (7919 + (a0.size : Int)) = 7919 + (a0.size : Int) := by unfold wrap64; omega
    have HE := Aside0.mk e0
    clear e0
    go_loop [3, 14] (fun t i => ∃ x : Int, 0 ≤ x ∧ x ≤ (a0.size : Int) + 2 ∧ i = .int .i64 x ∧ t = .int .i64 (((bytesOf a0 ++ [3, 1]).take x.toNat).foldl digStep (wrap64 (7919 + (a0.size : Int))))) (fun _ i => a0.size + 2 - (intOf i).toNat)
    case atStart => exact ⟨0, Int.le_refl _, by omega, rfl, by rw [HE.out]; rfl⟩
    case round =>
      obtain ⟨x, h0, hk, rfl, rfl⟩ := hrel
      have hlen : (bytesOf a0 ++ [(3 : Int), 1]).length = a0.size + 2 := by rw [List.length_append, bytesOf_length]; rfl
      by_cases hlt : x < (a0.size : Int) + 2
      · obtain ⟨ad, had, hcell⟩ := HR.out.at_ x (by omega) (by omega)
        cases had
        rw [add_plain] at hcell
        have hstep : ((bytesOf a0 ++ [(3 : Int), 1]).take (x + 1).toNat).foldl digStep (wrap64 (7919 + (a0.size : Int))) = digStep (((bytesOf a0 ++ [(3 : Int), 1]).take x.toNat).foldl digStep (wrap64 (7919 + (a0.size : Int)))) (rd (bytesOf a0 ++ [3, 1]) x) := by
          rw [show (x + 1).toNat = x.toNat + 1 by omega, List.take_succ_eq_append_getElem (by omega), List.foldl_append]
          simp only [List.foldl_cons, List.foldl_nil, rd]
          rw [List.getD_eq_getElem?_getD, List.getElem?_eq_getElem (by omega), Option.getD_some]
        generalize hA : ((bytesOf a0 ++ [(3 : Int), 1]).take x.toNat).foldl digStep (wrap64 (7919 + (a0.size : Int))) = A at *
        generalize hV : rd (bytesOf a0 ++ [3, 1]) x = V at *
        have HA := Aside0.mk hA
        have HV := Aside0.mk hV
        have hw : wrap64 (x + 1) = x + 1 := by unfold wrap64; omega
        have HW := Aside0.mk hw
        have HS := Aside0.mk hstep
        have hx1 : 0 ≤ x := h0
        have H0 := Aside0.mk h0
        have H1 := Aside0.mk hlt
        have c1 : decide (x < (a0.size : Int) + 2) = true := decide_eq_true hlt
        clear hstep hA hV hlen hw hk
        replace h0 := eq_true h0
        replace hx1 := eq_true hlt
        clear hlt
        go_wp2
        go_round
        case rel => exact ⟨x + 1, by have := H0.out; omega, by have := H1.out; omega, by rw [HW.out], by rw [HS.out]; rfl⟩
        case measure => have := H0.out; have := H1.out; simp [intOf, HW.out]; omega
      · have hx : x = (a0.size : Int) + 2 := by omega
        have c1 : decide (x < (a0.size : Int) + 2) = false := decide_eq_false hlt
        have HA : Aside0 (((bytesOf a0 ++ [(3 : Int), 1]).take x.toNat).foldl digStep (wrap64 (7919 + (a0.size : Int))) = (bytesOf a0 ++ [3, 1]).foldl digStep (wrap64 (7919 + (a0.size : Int)))) := ⟨by rw [List.take_of_length_le (by omega)]⟩
        generalize hA : ((bytesOf a0 ++ [(3 : Int), 1]).take x.toNat).foldl digStep (wrap64 (7919 + (a0.size : Int))) = A at *
        clear hlen hk hlt hx h0 hA
        go_wp2
        go_ret
        exact ⟨by rw [← HRr.out, ← HA.out]; rfl, HB.out⟩
  · rw [if_neg hs] at h
    exact absurd h (by simp)
end Go.Proofs.Ytabkalibgblahaa.PA
