import Derived.Test.YtniejidekflmiaaGreatDoorProg
import Derived.Test.YtniejidekflmiaaGreatDoorBase
import Derived.Test.YtniejidekflmiaaGreatDoorTsk1
import Derived.RowKit
import Derived.ChangeSlices
import Derived.Deep.Fields
import Derived.WideShapes
namespace Go.Proofs.YtniejidekflmiaaGreatDoor
open Go.RowKit Go.ChangeShapes Go.WideShapes
set_option linter.unusedVariables false

/-- its numbers are what their types hold -/
def Tsk.ok (t : Tsk) : Prop := (Lit.int .i64 t.T).wf = true ∧ (Lit.int .i64 t.D).wf = true ∧ (Lit.int .i64 t.mode).wf = true ∧ (Lit.int .i64 t.q).wf = true ∧ (Lit.int .i64 t.theta).wf = true ∧ (Lit.int .u64 t.ecb).wf = true ∧ (Lit.int .u64 t.ucb).wf = true ∧ ∀ n ∈ t.regs, (Lit.int .i64 n).wf = true

set_option maxRecDepth 100000 in
theorem ints_of_trod {H : Type} {enc : TypeId × Value → H} {W : World} {base : Nat} {spare : Nat → Bool} {held : Bool} {n : Nat} {v : Value} {y : DataW H × List MemPlace} (h : DataW.trod enc Tryz.prog W base spare held n 35 [v] = some y) :
    ∃ xs, Ints W v xs ∧ (∀ x ∈ xs, (Lit.int .i64 x).wf = true) := by
  rcases open_ints Tryz.underlying35 Tryz.underlying2 (by kernel_rfl) h with ⟨hv, _⟩ | ⟨a, len, cap, zs, hv, _, h1, h2, hz, _, hc, hw⟩
  · obtain rfl : v = .slice none 0 0 := by simpa using hv
    exact ⟨[], ⟨none, 0, rfl, Nat.le_refl _, Nat.zero_le _, fun h => absurd rfl h⟩, by simp⟩
  · obtain rfl : v = .slice (some a) len cap := by simpa using hv
    have hle : len ≤ zs.length := by rw [hz]; split <;> omega
    have hlen : (zs.take len).length = len := by rw [List.length_take]; omega
    refine ⟨zs.take len, ⟨some a, cap, by rw [hlen], by omega, h2, fun hne => ?_⟩, fun x hx => hw x (List.mem_of_mem_take hx)⟩
    have hpos : 0 < len := by
      rcases Nat.eq_zero_or_pos len with h0 | h0
      · rw [h0] at hne; simp at hne
      · exact h0
    obtain ⟨b, o, spot⟩ := a
    have c0 := hc 0 (by omega)
    have hspot : spot = none := by simpa [Addr.add] using World.cell?_spot c0
    subst hspot
    refine ⟨b, o, rfl, fun i hi => ?_⟩
    rw [hlen] at hi
    have := hc i (by omega)
    rw [List.getElem_take]
    have e : (⟨b, o, none⟩ : Addr).add i = ⟨b, o + i, none⟩ := by unfold Addr.add; split <;> simp_all
    rw [e] at this
    rw [this]
    congr 2
    simp [List.getD, List.getElem?_eq_getElem (show i < zs.length by omega)]

set_option maxRecDepth 100000 in
theorem task_of_trod {H : Type} {enc : TypeId × Value → H} {W : World} {base : Nat} {spare : Nat → Bool} {held : Bool} {n : Nat} {cs : List Value} {y : DataW H × List MemPlace} (hl : cs.length = 9) (h : DataW.trod enc Tryz.prog W base spare held n 38 cs = some y) :
    ∃ (t : Tsk) (r : Value), cs = (tskV t r).cells.toList ∧ Ints W r t.regs ∧ t.name.size ≤ maxLen ∧ t.ok := by
  obtain ⟨xs, m, _, hx, _, hlen, hfi⟩ := DataW.trod_struct Tryz.underlying38 h
  match cs, hl with
  | [c0, c1, c2, c3, c4, c5, c6, c7, c8], _ =>
    match xs, hlen with
    | [y0, y1, y2, y3, y4, y5, y6, y7, y8], _ =>
      have k0 := hfi 0 _ rfl
      have k1 := hfi 1 _ rfl
      have k2 := hfi 2 _ rfl
      have k3 := hfi 3 _ rfl
      have k4 := hfi 4 _ rfl
      have k5 := hfi 5 _ rfl
      have k6 := hfi 6 _ rfl
      have k7 := hfi 7 _ rfl
      have k8 := hfi 8 _ rfl
      clear hfi
      simp only [List.getElem_toArray, List.getElem_cons_zero, List.getElem_cons_succ] at k0 k1 k2 k3 k4 k5 k6 k7 k8
      rw [show Tryz.prog.cellsOf 9 = 1 by kernel_rfl] at k0
      rw [show Tryz.prog.cellsOf 2 = 1 by kernel_rfl] at k1 k2 k4
      rw [show Tryz.prog.cellsOf 3 = 1 by kernel_rfl] at k3 k5
      rw [show Tryz.prog.cellsOf 35 = 1 by kernel_rfl] at k6
      rw [show Tryz.prog.cellsOf 36 = 1 by kernel_rfl] at k7 k8
      simp only [List.drop_zero, List.drop_succ_cons, List.take_succ_cons, List.take_zero, List.getElem?_cons_zero, List.getElem?_cons_succ] at k0 k1 k2 k3 k4 k5 k6 k7 k8
      obtain ⟨s, e0, _, hs⟩ := DataW.trod_string Tryz.underlying9 k0
      obtain ⟨n1, e1, _, w1⟩ := DataW.trod_int Tryz.underlying2 k1
      obtain ⟨n2, e2, _, w2⟩ := DataW.trod_int Tryz.underlying2 k2
      obtain ⟨n3, e3, _, w3⟩ := DataW.trod_int Tryz.underlying3 k3
      obtain ⟨n4, e4, _, w4⟩ := DataW.trod_int Tryz.underlying2 k4
      obtain ⟨n5, e5, _, w5⟩ := DataW.trod_int Tryz.underlying3 k5
      obtain ⟨n7, e7, _, w7⟩ := DataW.trod_int Tryz.underlying36 k7
      obtain ⟨n8, e8, _, w8⟩ := DataW.trod_int Tryz.underlying36 k8
      obtain ⟨rs, hI, w6⟩ := ints_of_trod k6
      simp only [List.cons.injEq, and_true] at e0 e1 e2 e3 e4 e5 e7 e8
      subst e0 e1 e2 e3 e4 e5 e7 e8
      exact ⟨⟨s, n1, n2, n3, n4, n5, rs, n7, n8⟩, c6, rfl, hI, hs, w1, w2, w3, w4, w5, w7, w8, w6⟩

set_option maxRecDepth 100000 in
theorem open_task {H : Type} {enc : TypeId × Value → H} {W : World} {r0 : Reach} {b0 base : Nat} {spare : Nat → Bool} {held : Bool} {v : Value} {d : DataW H} {p : List MemPlace}
    (hv : Value.okWide Tryz.prog W r0 b0 38 v) (h : DataW.Trod enc Tryz.prog W base spare held 38 v d p) : ∃ t : Tsk, ∃ r, v = tskV t r ∧ Ints W r t.regs ∧ t.name.size ≤ maxLen ∧ t.ok := by
  obtain ⟨cs, rfl, hsz⟩ := okWide_struct Tryz.underlying38 hv
  obtain ⟨fuel, hf⟩ := h
  have hl : (Value.agg cs).cells.toList.length = 9 := by
    rw [show (Value.agg cs).cells = cs from rfl, Array.length_toList, hsz]
    kernel_rfl
  obtain ⟨t, r, e, h1, h2, h3⟩ := task_of_trod hl hf
  refine ⟨t, r, ?_, h1, h2, h3⟩
  have e2 : cs.toList = (tskV t r).cells.toList := e
  have : cs = (tskV t r).cells := Array.ext' e2
  rw [this]
  rfl
end Go.Proofs.YtniejidekflmiaaGreatDoor
