/- Used by the claim's last text. -/
import Derived.Test.YtclpjlaielphfaaDoorRepPTx0
import Derived.Deep.SlicePairs
import Derived.ChangeSlices
import Derived.ChangeArms
import Derived.Lib.SmallJoins
section
namespace Go.Proofs.YtclpjlaielphfaaDoor.PT
open Go Go.RowKit Go.Proofs.YtclpjlaielphfaaDoorW.PrintWords Go.Proofs.YtclpjlaielphfaaDoorW.PrintLast Go.Proofs.YtclpjlaielphfaaDoorW.PrintMore
open Go.ChangeShapes Go.WideShapes Go.Deep
set_option linter.unusedVariables false
set_option linter.unusedSimpArgs false
section
variable {H : Type} {enc : TypeId × Value → H} {P : Program} {w : World} {base : Nat} {held : Bool}
theorem ints_in {t e : TypeId} {fuel : Nat} {v : Value} {y : DataW H × List MemPlace} (ht : P.underlying t = some (.slice e)) (he : P.underlying e = some (.int .i64)) (ce : P.cellsOf e = 1)
    (h : DataW.trod enc P w base (fun _ => true) held fuel t [v] = some y) : ∃ (a : Option Addr) (cap : Nat) (l : List Int), v = .slice a l.length cap ∧ Kd.C (Kd.int .i64) w a l.length l ∧ l.length ≤ cap ∧ l.length ≤ maxLen := by
  rcases open_ints ht he ce h with ⟨hcs, _⟩ | ⟨x, l, c, zs, hcs, _, hl, hm, hz, _, hcell, hwz⟩
  · obtain rfl : v = .slice none 0 0 := by simpa using hcs
    exact ⟨none, 0, [], rfl, Kd.C_nil _ _, Nat.le_refl _, Nat.zero_le _⟩
  · obtain rfl : v = .slice (some x) l c := by simpa using hcs
    simp only [if_true] at hz
    obtain ⟨q, e1, hr, hm', hw', hc'⟩ := ReadsInt.ofRowC (k := .i64) (w := w) (a := some x) (len := l) (cap := c) (zs := zs) (.inr ⟨x, rfl, hl, hm, hz, hcell, hwz⟩)
    subst e1
    exact ⟨some x, c, q, rfl, Kd.C_of_reads (d := (0 : Int)) (h1 := fun _ => rfl) hr, hc', hm'⟩
theorem rows_in {t e s q k : TypeId} {f0 f1 : Field} {fuel : Nat} {v : Value} {y : DataW H × List MemPlace} (ht : P.underlying t = some (.slice e)) (he : P.underlying e = some (.struct #[f0, f1]))
    (ce : P.cellsOf e = 2) (o0 : f0.offset = 0) (o1 : f1.offset = 1) (t0 : f0.type = s) (t1 : f1.type = q) (hs : P.underlying s = some .string) (cs : P.cellsOf s = 1) (hq : P.underlying q = some (.slice k)) (cq : P.cellsOf q = 1) (hk : P.underlying k = some (.int .i64)) (ck : P.cellsOf k = 1)
    (h : DataW.trod enc P w base (fun _ => true) held fuel t [v] = some y) :
    ∃ (a : Option Addr) (cap : Nat) (l : List S42), v = .slice a l.length cap ∧ Kd.C k42 w a l.length l ∧ l.length ≤ cap ∧ l.length ≤ maxLen ∧ ∀ x ∈ l, x.f0.size ≤ maxLen ∧ x.f1.length ≤ maxLen := by
  subst t0
  rcases open_slice_pairs ht he ce o0 o1 cs (by rw [t1]; exact cq) h with ⟨hcs, _⟩ | ⟨x, len, cap, m, n, V0, V1, D0, D1, P0, P1, hcs, _, hl, hm, hmm, _, hr⟩
  · obtain rfl : v = .slice none 0 0 := by simpa using hcs
    exact ⟨none, 0, [], rfl, Kd.C_nil _ _, Nat.le_refl _, Nat.zero_le _, fun x hx => by cases hx⟩
  · obtain rfl : v = .slice (some x) len cap := by simpa using hcs
    simp only [if_true] at hmm
    subst hmm
    have each : ∀ i, i < m → ∃ y : S42 × Option Addr × Nat, w.cell? (x.add (i * 2)) = some (.string y.1.f0) ∧ w.cell? (x.add (i * 2 + 1)) = some (.slice y.2.1 y.1.f1.length y.2.2) ∧ Kd.C (Kd.int .i64) w y.2.1 y.1.f1.length y.1.f1 ∧ y.1.f1.length ≤ y.2.2 ∧ y.1.f0.size ≤ maxLen ∧ y.1.f1.length ≤ maxLen := by
      intro i hi
      obtain ⟨h1, h2, h3, h4⟩ := hr i hi
      rw [t1] at h4
      obtain ⟨s0, e0, _, z0⟩ := DataW.trod_string hs h3
      obtain ⟨a1, c1, l1, e1, q1, q2, q3⟩ := ints_in hq hk ck h4
      have e0' : V0 i = .string s0 := by simpa using e0
      exact ⟨⟨⟨s0, l1⟩, a1, c1⟩, by rw [h1, e0'], by rw [h2, e1], q1, q2, z0, q3⟩
    obtain ⟨y, hy⟩ : ∃ y : Nat → S42 × Option Addr × Nat, ∀ i, i < m → w.cell? (x.add (i * 2)) = some (.string (y i).1.f0) ∧ w.cell? (x.add (i * 2 + 1)) = some (.slice (y i).2.1 (y i).1.f1.length (y i).2.2) ∧ Kd.C (Kd.int .i64) w (y i).2.1 (y i).1.f1.length (y i).1.f1 ∧ (y i).1.f1.length ≤ (y i).2.2 ∧ (y i).1.f0.size ≤ maxLen ∧ (y i).1.f1.length ≤ maxLen :=
      ⟨fun i => if hi : i < m then Classical.choose (each i hi) else ⟨z42, none, 0⟩, fun i hi => by simp only [hi, dite_true]; exact Classical.choose_spec (each i hi)⟩
    have hlen : ((List.range len).map fun i => (y i).1).length = len := by simp
    refine ⟨some x, m, (List.range len).map fun i => (y i).1, by rw [hlen], ?_, by rw [hlen]; exact hl, by rw [hlen]; exact Nat.le_trans hl hm, fun r hr' => ?_⟩
    · rw [hlen]
      refine ⟨hlen, Nat.le_trans hl hm, fun _ => ⟨x, rfl, fun j p hp => ?_⟩⟩
      obtain ⟨hj, hp⟩ := List.getElem?_eq_some_iff.1 hp
      simp only [List.length_map, List.length_range] at hj
      simp only [List.getElem_map, List.getElem_range] at hp
      obtain ⟨h1, h2, h3, h4, _, _⟩ := hy j (by omega)
      rw [hp] at h1 h2 h3 h4
      refine ⟨[.string p.f0, .slice (y j).2.1 p.f1.length (y j).2.2], rfl, k42_mk w p h4 h3, fun i u hu => ?_⟩
      have hi : i = 0 ∨ i = 1 := by
        have := (List.getElem?_eq_some_iff.1 hu).1
        simp only [List.length_cons, List.length_nil] at this
        omega
      rcases hi with rfl | rfl
      · simp only [List.getElem?_cons_zero, Option.some.injEq] at hu
        subst hu
        exact h1
      · simp only [List.getElem?_cons_succ, List.getElem?_cons_zero, Option.some.injEq] at hu
        subst hu
        exact h2
    · simp only [List.mem_map, List.mem_range] at hr'
      obtain ⟨j, hj, rfl⟩ := hr'
      exact ⟨(hy j (by omega)).2.2.2.2.1, (hy j (by omega)).2.2.2.2.2⟩
end
end Go.Proofs.YtclpjlaielphfaaDoor.PT
end
