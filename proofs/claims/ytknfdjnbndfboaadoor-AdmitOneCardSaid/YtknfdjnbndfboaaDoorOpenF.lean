/- What comes in: a task that is no greater than what may come in; a verdict. -/
import Derived.Test.YtknfdjnbndfboaaDoorProg
import Derived.Test.YtknfdjnbndfboaaDoorBase
import Derived.Test.YtknfdjnbndfboaaDoorTsk1
import Derived.Test.YtknfdjnbndfboaaDoorTsk3
import Derived.Test.YtknfdjnbndfboaaDoorTskZ
import Derived.Test.YtknfdjnbndfboaaDoorTskO
import Derived.Test.YtknfdjnbndfboaaDoorSetO
import Derived.Test.YtknfdjnbndfboaaDoorRespS
import Derived.Test.YtknfdjnbndfboaaDoorTolP
import Derived.Test.YtknfdjnbndfboaaDoorAdm
import Derived.RowKit
import Derived.ChangeSlices
import Derived.Deep.Fields
import Derived.WideShapes
namespace Go.Proofs.YtknfdjnbndfboaaDoor
open Go.RowKit Go.ChangeShapes Go.WideShapes
set_option linter.unusedVariables false

set_option maxRecDepth 100000 in
theorem open_taskF {H : Type} {enc : TypeId × Value → H} {W : World} {r0 : Reach} {b0 base : Nat} {spare : Nat → Bool} {held : Bool} {v : Value} {d : DataW H} {p : List MemPlace}
    (hv : Value.okWide Tryd.prog W r0 b0 34 v) (hz : Sz 34 d) (h : DataW.Trod enc Tryd.prog W base spare held 34 v d p) : ∃ t : Tsk, ∃ r, v = tskV t r ∧ Ints W r t.regs ∧ t.fit := by
  obtain ⟨cs, rfl, hsz⟩ := okWide_struct Tryd.underlying34 hv
  obtain ⟨fuel, hf⟩ := h
  have hl : (Value.agg cs).cells.toList.length = 9 := by
    rw [show (Value.agg cs).cells = cs from rfl, Array.length_toList, hsz]
    kernel_rfl
  obtain ⟨t, r, e, h1, h2⟩ := task_sized hl hz hf
  refine ⟨t, r, ?_, h1, h2⟩
  have e2 : cs.toList = (tskV t r).cells.toList := e
  have : cs = (tskV t r).cells := Array.ext' e2
  rw [this]
  rfl
set_option maxRecDepth 100000 in
theorem vd_of_trod {H : Type} {enc : TypeId × Value → H} {W : World} {base : Nat} {spare : Nat → Bool} {held : Bool} {n : Nat} {cs : List Value} {y : DataW H × List MemPlace} (hl : cs.length = 3) (h : DataW.trod enc Tryd.prog W base spare held n 44 cs = some y) :
    ∃ (s : Vd) (v : Value), cs = (vdV s v).cells.toList ∧ Ints W v s.rs := by
  obtain ⟨xs, m, _, hx, _, hlen, hfi⟩ := DataW.trod_struct Tryd.underlying44 h
  match cs, hl with
  | [c0, c1, c2], _ =>
    match xs, hlen with
    | [y0, y1, y2], _ =>
      have k0 := hfi 0 _ rfl
      have k1 := hfi 1 _ rfl
      have k2 := hfi 2 _ rfl
      clear hfi
      simp only [List.getElem_toArray, List.getElem_cons_zero, List.getElem_cons_succ] at k0 k1 k2
      rw [show Tryd.prog.cellsOf 3 = 1 by kernel_rfl] at k0 k1
      rw [show Tryd.prog.cellsOf 31 = 1 by kernel_rfl] at k2
      simp only [List.drop_zero, List.drop_succ_cons, List.take_succ_cons, List.take_zero, List.getElem?_cons_zero, List.getElem?_cons_succ] at k0 k1 k2
      obtain ⟨n0, e0, _, w0⟩ := DataW.trod_int Tryd.underlying3 k0
      obtain ⟨n1, e1, _, w1⟩ := DataW.trod_int Tryd.underlying3 k1
      obtain ⟨rs, hI, _⟩ := ints_of_trod k2
      simp only [List.cons.injEq, and_true] at e0 e1
      subst e0 e1
      exact ⟨⟨n0, n1, rs⟩, c2, rfl, hI⟩
set_option maxRecDepth 100000 in
theorem open_vd {H : Type} {enc : TypeId × Value → H} {W : World} {r0 : Reach} {b0 base : Nat} {spare : Nat → Bool} {held : Bool} {v : Value} {d : DataW H} {p : List MemPlace}
    (hv : Value.okWide Tryd.prog W r0 b0 44 v) (h : DataW.Trod enc Tryd.prog W base spare held 44 v d p) : ∃ s : Vd, ∃ u, v = vdV s u ∧ Ints W u s.rs := by
  obtain ⟨cs, rfl, hsz⟩ := okWide_struct Tryd.underlying44 hv
  obtain ⟨fuel, hf⟩ := h
  have hl : (Value.agg cs).cells.toList.length = 3 := by
    rw [show (Value.agg cs).cells = cs from rfl, Array.length_toList, hsz]
    kernel_rfl
  obtain ⟨s, u, e, h1⟩ := vd_of_trod hl hf
  refine ⟨s, u, ?_, h1⟩
  have e2 : cs.toList = (vdV s u).cells.toList := e
  have : cs = (vdV s u).cells := Array.ext' e2
  rw [this]
  rfl
end Go.Proofs.YtknfdjnbndfboaaDoor
