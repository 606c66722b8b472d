/- Sets that come in. -/
import Derived.Test.YtniejidekflmiaaGreatDoorProg
import Derived.Test.YtniejidekflmiaaGreatDoorBase
import Derived.Test.YtniejidekflmiaaGreatDoorTsk1
import Derived.Test.YtniejidekflmiaaGreatDoorTskO
import Derived.Test.YtniejidekflmiaaGreatDoorTskZ
import Derived.RowKit
import Derived.ChangeSlices
import Derived.Deep.Fields
import Derived.Deep.Slices
import Derived.WideShapes
import Derived.SizedLaws
namespace Go.Proofs.YtniejidekflmiaaGreatDoor
open Go.RowKit Go.ChangeShapes Go.WideShapes Go.Deep
set_option linter.unusedVariables false

/-- no text and no row of it is too great -/
def Sz {H : Type} (t : TypeId) (d : DataW H) : Prop := ∀ n ∈ d.weights Tryz.prog t, n ≤ 140737488351232
theorem Sz.of {H : Type} {ts : List TypeId} {ds : List (DataW H)} {j : Nat} {t : TypeId} {d : DataW H} (h : (DataW.weightsEach Tryz.prog ts ds).all (· ≤ reachBytes) = true) (ht : ts[j]? = some t) (hd : ds[j]? = some d) : Sz t d := fun n hn => by
  have := List.all_eq_true.1 h _ (DataW.weights_mem_each ht hd n hn)
  have h2 : n ≤ reachBytes := by simpa using this
  exact h2
theorem weights_mem_all {H : Type} {P : Program} {e : TypeId} {d : DataW H} : ∀ {l : List (DataW H)}, d ∈ l → ∀ n ∈ d.weights P e, n ∈ DataW.weightsAll P e l
  | x :: l, hd, n, hn => by
    simp only [DataW.weightsAll, List.mem_append]
    rcases List.mem_cons.1 hd with rfl | h
    · exact .inl hn
    · exact .inr (weights_mem_all h n hn)
theorem Sz.field {H : Type} {t : TypeId} {fs : Array Field} {ds : List (DataW H)} (h : Sz t (.agg ds)) (hu : Tryz.prog.underlying t = some (.struct fs)) {j : Nat} {f : TypeId} {d : DataW H} (hf : (fs.toList.map (·.type))[j]? = some f) (hd : ds[j]? = some d) : Sz f d := fun n hn =>
  h n (by
    simp only [DataW.weights, hu]
    exact DataW.weights_mem_each hf hd n hn)
theorem Sz.elem {H : Type} {t e : TypeId} {l sp : List (DataW H)} (h : Sz t (.slice l sp)) (hu : Tryz.prog.underlying t = some (.slice e)) {d : DataW H} (hd : d ∈ l) : Sz e d := fun n hn =>
  h n (by
    simp only [DataW.weights, hu, List.mem_cons, List.mem_append]
    exact .inr (.inl (weights_mem_all hd n hn)))
theorem Sz.row {H : Type} {t e : TypeId} {l sp : List (DataW H)} (h : Sz t (.slice l sp)) (hu : Tryz.prog.underlying t = some (.slice e)) : l.length * Tryz.prog.bytesOf e ≤ 140737488351232 := by
  have := h ((l.length + sp.length) * Tryz.prog.bytesOf e) (by simp [DataW.weights, hu])
  exact Nat.le_trans (Nat.mul_le_mul_right _ (Nat.le_add_right _ _)) this
theorem Sz.text {H : Type} {t : TypeId} {s : List UInt8} (h : Sz (H := H) t (.lit (.string s))) : s.length ≤ 140737488351232 := h _ (by simp [DataW.weights])

theorem bytes64 : Tryz.prog.bytesOf 2 = 8 := by kernel_rfl
theorem bytesTask : Tryz.prog.bytesOf 38 = 96 := by kernel_rfl
theorem ints_sized {H : Type} {enc : TypeId × Value → H} {W : World} {base : Nat} {spare : Nat → Bool} {held : Bool} {n : Nat} {v : Value} {y : DataW H × List MemPlace} (h : DataW.trod enc Tryz.prog W base spare held n 35 [v] = some y) {xs : List Int} (hx : Ints W v xs) (hs : Sz 35 y.1) : xs.length * 8 ≤ 140737488351232 := by
  rcases open_ints Tryz.underlying35 Tryz.underlying2 (by kernel_rfl) h with ⟨hv, _⟩ | ⟨a, len, cap, zs, hv, _, h1, h2, hz, rfl, hc, hw⟩
  · obtain rfl : v = .slice none 0 0 := by simpa using hv
    obtain ⟨A, c, e, _⟩ := hx
    have := (Value.slice.inj e).2.1
    omega
  · obtain rfl : v = .slice (some a) len cap := by simpa using hv
    obtain ⟨A, c, e, _⟩ := hx
    have hlen := (Value.slice.inj e).2.1
    have := hs.row Tryz.underlying35
    rw [bytes64] at this
    have hle : len ≤ zs.length := by rw [hz]; split <;> omega
    simp only [lits, List.length_map, List.length_take] at this
    rw [← hlen]
    rwa [Nat.min_eq_left hle] at this

/-- a task that is no greater than what may come in -/
def Tsk.fit (t : Tsk) : Prop := t.name.size ≤ 140737488351232 ∧ t.regs.length * 8 ≤ 140737488351232 ∧ t.ok
def TSet.fit (s : TSet) : Prop := (Lit.int .i64 s.reload).wf = true ∧ s.tasks.length * 96 ≤ 140737488351232 ∧ ∀ t ∈ s.tasks, t.fit
theorem TSet.fit.good {s : TSet} (h : s.fit) : s.good := fun t ht => by
  have := (h.2.2 t ht).1
  unfold maxLen
  omega

set_option maxRecDepth 100000 in
theorem task_sized {H : Type} {enc : TypeId × Value → H} {W : World} {base : Nat} {spare : Nat → Bool} {held : Bool} {n : Nat} {cs : List Value} {y : DataW H × List MemPlace} (hl : cs.length = 9) (hz : Sz 38 y.1) (h : DataW.trod enc Tryz.prog W base spare held n 38 cs = some y) :
    ∃ (t : Tsk) (r : Value), cs = (tskV t r).cells.toList ∧ Ints W r t.regs ∧ t.fit := by
  obtain ⟨xs, m, _, hx, _, hlen, hfi⟩ := DataW.trod_struct Tryz.underlying38 h
  match cs, hl with
  | [c0, c1, c2, c3, c4, c5, c6, c7, c8], _ =>
    match xs, hlen with
    | [y0, y1, y2, y3, y4, y5, y6, y7, y8], _ =>
      have k0 := hfi 0 _ rfl
      have k1 := hfi 1 _ rfl
      have k2 := hfi 2 _ rfl
      have k3 := hfi 3 _ rfl
      have k4 := hfi 4 _ rfl
      have k5 := hfi 5 _ rfl
      have k6 := hfi 6 _ rfl
      have k7 := hfi 7 _ rfl
      have k8 := hfi 8 _ rfl
      clear hfi
      simp only [List.getElem_toArray, List.getElem_cons_zero, List.getElem_cons_succ] at k0 k1 k2 k3 k4 k5 k6 k7 k8
      rw [show Tryz.prog.cellsOf 9 = 1 by kernel_rfl] at k0
      rw [show Tryz.prog.cellsOf 2 = 1 by kernel_rfl] at k1 k2 k4
      rw [show Tryz.prog.cellsOf 3 = 1 by kernel_rfl] at k3 k5
      rw [show Tryz.prog.cellsOf 35 = 1 by kernel_rfl] at k6
      rw [show Tryz.prog.cellsOf 36 = 1 by kernel_rfl] at k7 k8
      simp only [List.drop_zero, List.drop_succ_cons, List.take_succ_cons, List.take_zero, List.getElem?_cons_zero, List.getElem?_cons_succ] at k0 k1 k2 k3 k4 k5 k6 k7 k8
      rw [hx] at hz
      have z0 := hz.field (j := 0) Tryz.underlying38 rfl rfl
      have z6 := hz.field (j := 6) Tryz.underlying38 rfl rfl
      obtain ⟨s, e0, d0, hs⟩ := DataW.trod_string Tryz.underlying9 k0
      obtain ⟨n1, e1, _, w1⟩ := DataW.trod_int Tryz.underlying2 k1
      obtain ⟨n2, e2, _, w2⟩ := DataW.trod_int Tryz.underlying2 k2
      obtain ⟨n3, e3, _, w3⟩ := DataW.trod_int Tryz.underlying3 k3
      obtain ⟨n4, e4, _, w4⟩ := DataW.trod_int Tryz.underlying2 k4
      obtain ⟨n5, e5, _, w5⟩ := DataW.trod_int Tryz.underlying3 k5
      obtain ⟨n7, e7, _, w7⟩ := DataW.trod_int Tryz.underlying36 k7
      obtain ⟨n8, e8, _, w8⟩ := DataW.trod_int Tryz.underlying36 k8
      obtain ⟨rs, hI, w6⟩ := ints_of_trod k6
      have hl6 := ints_sized k6 hI z6
      rw [d0] at z0
      have hl0 := z0.text
      simp only [List.cons.injEq, and_true] at e0 e1 e2 e3 e4 e5 e7 e8
      subst e0 e1 e2 e3 e4 e5 e7 e8
      exact ⟨⟨s, n1, n2, n3, n4, n5, rs, n7, n8⟩, c6, rfl, hI, by rw [Array.length_toList] at hl0; exact hl0, hl6, w1, w2, w3, w4, w5, w7, w8, w6⟩


set_option maxRecDepth 100000 in
theorem task_at {W : World} {base : Nat} {a : Addr} {t : Tsk} {r : Value} (hI : Ints W r t.regs) (h : W.cells? base a 9 = some (tskV t r).cells.toList) : ∃ b o, a = ⟨b, o, none⟩ ∧ TaskAt W b o t r := by
  obtain ⟨_, _, hc⟩ := World.cells?_some h
  have c0 := hc 0 (by omega)
  obtain ⟨b, o, spot⟩ := a
  have hspot : spot = none := by
    have c0' : W.cell? ((⟨b, o, spot⟩ : Addr).add 0) = some (.string t.name) := c0
    simpa [Addr.add] using World.cell?_spot c0'
  subst hspot
  have e : ∀ j, (⟨b, o, none⟩ : Addr).add j = ⟨b, o + j, none⟩ := fun j => by unfold Addr.add; split <;> simp_all
  refine ⟨b, o, rfl, hI, ?_, ?_, ?_, ?_, ?_, ?_, ?_, ?_, ?_⟩
  · have := hc 0 (by omega); rw [e] at this; exact this
  · have := hc 1 (by omega); rw [e] at this; exact this
  · have := hc 2 (by omega); rw [e] at this; exact this
  · have := hc 3 (by omega); rw [e] at this; exact this
  · have := hc 4 (by omega); rw [e] at this; exact this
  · have := hc 5 (by omega); rw [e] at this; exact this
  · have := hc 6 (by omega); rw [e] at this; exact this
  · have := hc 7 (by omega); rw [e] at this; exact this
  · have := hc 8 (by omega); rw [e] at this; exact this

instance : Inhabited Tsk := ⟨⟨ByteArray.empty, 0, 0, 0, 0, 0, [], 0, 0⟩⟩
set_option maxRecDepth 100000 in
theorem tasks_of_trod {H : Type} {enc : TypeId × Value → H} {W : World} {base : Nat} {spare : Nat → Bool} {held : Bool} {n : Nat} {v : Value} {y : DataW H × List MemPlace} (h : DataW.trod enc Tryz.prog W base spare held n 22 [v] = some y) (hz : Sz 22 y.1) :
    ∃ ts, Tasks W v ts ∧ ts.length * 96 ≤ 140737488351232 ∧ ∀ t ∈ ts, t.fit := by
  rcases open_slice Tryz.underlying22 h with ⟨hv, _⟩ | ⟨a, len, cap, m, n, D, Pl, hv, _, hl, hm, hmm, rfl, hx⟩
  · obtain rfl : v = .slice none 0 0 := by simpa using hv
    exact ⟨[], ⟨none, 0, rfl, Nat.le_refl _, Nat.zero_le _, fun h => absurd rfl h⟩, by simp, by simp⟩
  · obtain rfl : v = .slice (some a) len cap := by simpa using hv
    have hle : len ≤ m := by rw [hmm]; split <;> omega
    rw [show Tryz.prog.cellsOf 38 = 9 by kernel_rfl] at hx
    obtain ⟨f, hf⟩ := choose_lt (α := Tsk) (n := len) (p := fun i t => ∃ r b o, a.add (i * 9) = ⟨b, o, none⟩ ∧ TaskAt W b o t r ∧ t.fit) (fun i hi => by
      obtain ⟨cs', h1, h2⟩ := hx i (by omega)
      obtain ⟨_, hlen, _⟩ := World.cells?_some h1
      have hzi : Sz 38 (D i) := hz.elem Tryz.underlying22 (List.mem_map.2 ⟨i, List.mem_range.2 hi, rfl⟩)
      obtain ⟨t, r, rfl, hI, hfit⟩ := task_sized hlen hzi h2
      obtain ⟨b, o, e, hat⟩ := task_at hI h1
      exact ⟨t, r, b, o, e, hat, hfit⟩)
    have hlen : ((List.range len).map f).length = len := by simp
    refine ⟨(List.range len).map f, ⟨some a, cap, by rw [hlen], by rw [hlen]; exact hl, hm, fun hne => ?_⟩, ?_, fun t ht => ?_⟩
    · have hpos : 0 < len := by
        rcases Nat.eq_zero_or_pos len with h0 | h0
        · rw [h0] at hne; simp at hne
        · exact h0
      obtain ⟨r, b, o, e, _, _⟩ := hf 0 hpos
      have e0 : a = ⟨b, o, none⟩ := by simpa [Addr.add] using e
      subst e0
      refine ⟨b, o, rfl, fun i hi => ?_⟩
      rw [hlen] at hi
      obtain ⟨r', b', o', e', hat, _⟩ := hf i hi
      have e1 : (⟨b, o, none⟩ : Addr).add (i * 9) = ⟨b, o + i * 9, none⟩ := by unfold Addr.add; split <;> simp_all
      rw [e1] at e'
      obtain ⟨rfl, rfl⟩ : b = b' ∧ o + i * 9 = o' := by simpa using e'
      exact ⟨r', by simpa using hat⟩
    · have := hz.row Tryz.underlying22
      rw [bytesTask] at this
      simpa using this
    · obtain ⟨i, hi, rfl⟩ := List.mem_map.1 ht
      obtain ⟨_, _, _, _, _, h⟩ := hf i (List.mem_range.1 hi)
      exact h

set_option maxRecDepth 100000 in
theorem set_of_trod {H : Type} {enc : TypeId × Value → H} {W : World} {base : Nat} {spare : Nat → Bool} {held : Bool} {n : Nat} {cs : List Value} {y : DataW H × List MemPlace} (hl : cs.length = 2) (hz : Sz 24 y.1) (h : DataW.trod enc Tryz.prog W base spare held n 24 cs = some y) :
    ∃ (s : TSet) (v : Value), cs = (setV s v).cells.toList ∧ Tasks W v s.tasks ∧ s.fit := by
  obtain ⟨xs, m, _, hx, _, hlen, hfi⟩ := DataW.trod_struct Tryz.underlying24 h
  match cs, hl with
  | [c0, c1], _ =>
    match xs, hlen with
    | [y0, y1], _ =>
      have k0 := hfi 0 _ rfl
      have k1 := hfi 1 _ rfl
      clear hfi
      simp only [List.getElem_toArray, List.getElem_cons_zero, List.getElem_cons_succ] at k0 k1
      rw [show Tryz.prog.cellsOf 2 = 1 by kernel_rfl] at k0
      rw [show Tryz.prog.cellsOf 22 = 1 by kernel_rfl] at k1
      simp only [List.drop_zero, List.drop_succ_cons, List.take_succ_cons, List.take_zero, List.getElem?_cons_zero, List.getElem?_cons_succ] at k0 k1
      rw [hx] at hz
      have z1 := hz.field (j := 1) Tryz.underlying24 rfl rfl
      obtain ⟨n0, e0, _, w0⟩ := DataW.trod_int Tryz.underlying2 k0
      obtain ⟨ts, hT, hlen, hfit⟩ := tasks_of_trod k1 z1
      simp only [List.cons.injEq, and_true] at e0
      subst e0
      exact ⟨⟨n0, ts⟩, c1, rfl, hT, w0, hlen, hfit⟩
set_option maxRecDepth 100000 in
theorem open_set {H : Type} {enc : TypeId × Value → H} {W : World} {r0 : Reach} {b0 base : Nat} {spare : Nat → Bool} {held : Bool} {v : Value} {d : DataW H} {p : List MemPlace}
    (hv : Value.okWide Tryz.prog W r0 b0 24 v) (hz : Sz 24 d) (h : DataW.Trod enc Tryz.prog W base spare held 24 v d p) : ∃ s : TSet, ∃ u, v = setV s u ∧ Tasks W u s.tasks ∧ s.fit := by
  obtain ⟨cs, rfl, hsz⟩ := okWide_struct Tryz.underlying24 hv
  obtain ⟨fuel, hf⟩ := h
  have hl : (Value.agg cs).cells.toList.length = 2 := by
    rw [show (Value.agg cs).cells = cs from rfl, Array.length_toList, hsz]
    kernel_rfl
  obtain ⟨s, u, e, h1, h2⟩ := set_of_trod hl hz hf
  refine ⟨s, u, ?_, h1, h2⟩
  have e2 : cs.toList = (setV s u).cells.toList := e
  have : cs = (setV s u).cells := Array.ext' e2
  rw [this]
  rfl
end Go.Proofs.YtniejidekflmiaaGreatDoor
