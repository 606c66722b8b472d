/- Rows that come in: numbers, structs, inputs. -/
import Derived.Test.YtniejidekflmiaaGreatDoorProg
import Derived.Test.YtniejidekflmiaaGreatDoorBase
import Derived.Test.YtniejidekflmiaaGreatDoorExt0
import Derived.Test.YtniejidekflmiaaGreatDoorTsk1
import Derived.Test.YtniejidekflmiaaGreatDoorTskO
import Derived.Test.YtniejidekflmiaaGreatDoorKM
import Derived.RowKit
import Derived.ChangeSlices
import Derived.Deep.Fields
import Derived.Deep.Slices
import Derived.WideShapes
namespace Go.Proofs.YtniejidekflmiaaGreatDoor
open Go.RowKit Go.ChangeShapes Go.WideShapes Go.Deep
set_option linter.unusedVariables false
set_option maxRecDepth 100000

section
variable {H : Type} {enc : TypeId × Value → H} {W : World} {base : Nat} {spare : Nat → Bool} {held : Bool}
theorem spot_none {b o : Nat} {spot : Option Nat} {v : Value} (h : W.cell? ⟨b, o, spot⟩ = some v) : spot = none := by simpa using World.cell?_spot h
theorem slr_of_trod {α : Type} [Inhabited α] {R : World → Nat → Nat → α → Prop} {ok : α → Prop} {ts te : TypeId} {size : Nat} {v : Value} {n : Nat} {y : DataW H × List MemPlace} (hu : Tryz.prog.underlying ts = some (.slice te)) (hc : Tryz.prog.cellsOf te = size) (hs : 0 < size)
    (elem : ∀ n cs y b o, cs.length = size → DataW.trod enc Tryz.prog W base spare held n te cs = some y → (∀ j u, cs[j]? = some u → W.cell? ⟨b, o + j, none⟩ = some u) → ∃ x, R W b o x ∧ ok x)
    (h : DataW.trod enc Tryz.prog W base spare held n ts [v] = some y) : ∃ xs, SlR R size Any W v xs ∧ ∀ x ∈ xs, ok x := by
  rcases open_slice hu h with ⟨hv, _⟩ | ⟨a, len, cap, m, n, D, Pl, hv, _, hl, hm, hmm, rfl, hx⟩
  · obtain rfl : v = .slice none 0 0 := by simpa using hv
    exact ⟨[], SlR.nil _ _ _ _, by simp⟩
  · obtain rfl : v = .slice (some a) len cap := by simpa using hv
    have hle : len ≤ m := by rw [hmm]; split <;> omega
    rw [hc] at hx
    obtain ⟨f, hf⟩ := choose_lt (α := α) (n := len) (p := fun i x => ∃ b o, a.add (i * size) = ⟨b, o, none⟩ ∧ R W b o x ∧ ok x) (fun i hi => by
      obtain ⟨cs', h1, h2⟩ := hx i (by omega)
      obtain ⟨_, hlen, hcc⟩ := World.cells?_some h1
      rcases hab : a.add (i * size) with ⟨b, o, spot⟩
      have c0 := hcc 0 hs
      rw [hab] at c0 hcc
      rw [List.getElem?_eq_getElem (by omega)] at c0
      have hspot : spot = none := by
        have c0' : W.cell? ((⟨b, o, spot⟩ : Addr).add 0) = some cs'[0] := c0
        simpa [Addr.add] using World.cell?_spot c0'
      subst hspot
      have e : ∀ j, (⟨b, o, none⟩ : Addr).add j = ⟨b, o + j, none⟩ := fun j => by unfold Addr.add; split <;> simp_all
      obtain ⟨x, h3, h4⟩ := elem n cs' _ b o hlen h2 (fun j u hu => by
        have hj := (List.getElem?_eq_some_iff.1 hu).1
        have := hcc j (by omega)
        rw [e] at this
        rw [this]; exact hu)
      exact ⟨x, b, o, rfl, h3, h4⟩)
    have hlen : ((List.range len).map f).length = len := by simp
    refine ⟨(List.range len).map f, ⟨some a, cap, by rw [hlen], by rw [hlen]; exact hl, hm, fun hne => ?_⟩, fun t ht => ?_⟩
    · have hpos : 0 < len := by
        rcases Nat.eq_zero_or_pos len with h0 | h0
        · rw [h0] at hne; simp at hne
        · exact h0
      obtain ⟨b, o, e, _, _⟩ := hf 0 hpos
      have e0 : a = ⟨b, o, none⟩ := by simpa [Addr.add] using e
      subst e0
      refine ⟨b, o, rfl, trivial, fun i hi => ?_⟩
      rw [hlen] at hi
      obtain ⟨b', o', e', hat, _⟩ := hf i hi
      have e1 : (⟨b, o, none⟩ : Addr).add (i * size) = ⟨b, o + i * size, none⟩ := by unfold Addr.add; split <;> simp_all
      rw [e1] at e'
      obtain ⟨rfl, rfl⟩ : b = b' ∧ o + i * size = o' := by simpa using e'
      simpa using hat
    · obtain ⟨i, hi, rfl⟩ := List.mem_map.1 ht
      obtain ⟨_, _, _, _, h⟩ := hf i (List.mem_range.1 hi)
      exact h
theorem open_i64s {r0 : Reach} {b0 : Nat} {v : Value} {d : DataW H} {p : List MemPlace} (hv : Value.okWide Tryz.prog W r0 b0 35 v) (h : DataW.Trod enc Tryz.prog W base spare held 35 v d p) : ∃ xs, Ints W v xs ∧ (∀ x ∈ xs, (Lit.int .i64 x).wf = true) := by
  obtain ⟨a, len, cap, rfl⟩ := okWide_slice Tryz.underlying35 hv
  obtain ⟨fuel, hf⟩ := h
  exact ints_of_trod hf
/-- the demands of jobs -/
def DemR (w : World) (b o : Nat) (xs : List Int) : Prop := ∃ r, w.cell? ⟨b, o, none⟩ = some r ∧ Ints w r xs
theorem dems_of_trod {v : Value} {n : Nat} {y : DataW H × List MemPlace} (h : DataW.trod enc Tryz.prog W base spare held n 55 [v] = some y) : ∃ xs, SlR DemR 1 Any W v xs ∧ ∀ x ∈ xs, ∀ z ∈ x, (Lit.int .i64 z).wf = true := by
  refine slr_of_trod (te := 35) Tryz.underlying55 (by kernel_rfl) (by decide) (fun n cs y b o hl h hc => ?_) h
  match cs, hl with
  | [c0], _ =>
    obtain ⟨xs, hI, hw⟩ := ints_of_trod h
    exact ⟨xs, ⟨c0, by have := hc 0 c0 rfl; exact this, hI⟩, hw⟩
/-- an input -/
def InpR (w : World) (b o : Nat) (x : Inp) : Prop :=
  w.cell? ⟨b, o, none⟩ = some (.int .u64 x.arrive) ∧ (∃ vd, w.cell? ⟨b, o + 1, none⟩ = some vd ∧ SlR DemR 1 Any w vd x.dems) ∧ w.cell? ⟨b, o + 2, none⟩ = some (.int .u64 x.touch)
def Inp.ok (x : Inp) : Prop := x.arrive < 18446744073709551616 ∧ x.touch < 18446744073709551616 ∧ ∀ d ∈ x.dems, ∀ z ∈ d, (Lit.int .i64 z).wf = true
instance : Inhabited Inp := ⟨⟨0, [], 0⟩⟩
theorem u64_in {x : Int} (h : (Lit.int .u64 x).wf = true) : 0 ≤ x ∧ x < 18446744073709551616 := by
  have h' : (decide ((0 : Int) ≤ x) && decide (x ≤ 18446744073709551615)) = true := h
  simp only [Bool.and_eq_true, decide_eq_true_eq] at h'
  omega
theorem inputs_of_trod {v : Value} {n : Nat} {y : DataW H × List MemPlace} (h : DataW.trod enc Tryz.prog W base spare held n 25 [v] = some y) : ∃ xs, SlR InpR 3 Any W v xs ∧ ∀ x ∈ xs, x.ok := by
  refine slr_of_trod (te := 57) Tryz.underlying25 (by kernel_rfl) (by decide) (fun n cs y b o hl h hc => ?_) h
  obtain ⟨xs, m, _, hx, _, hlen, hfi⟩ := DataW.trod_struct Tryz.underlying57 h
  match cs, hl with
  | [c0, c1, c2], _ =>
    match xs, hlen with
    | [y0, y1, y2], _ =>
      have k0 := hfi 0 _ rfl
      have k1 := hfi 1 _ rfl
      have k2 := hfi 2 _ rfl
      clear hfi
      simp only [List.getElem_toArray, List.getElem_cons_zero, List.getElem_cons_succ] at k0 k1 k2
      rw [show Tryz.prog.cellsOf 36 = 1 by kernel_rfl] at k0 k2
      rw [show Tryz.prog.cellsOf 55 = 1 by kernel_rfl] at k1
      simp only [List.drop_zero, List.drop_succ_cons, List.take_succ_cons, List.take_zero, List.getElem?_cons_zero, List.getElem?_cons_succ] at k0 k1 k2
      obtain ⟨n0, e0, _, w0⟩ := DataW.trod_int Tryz.underlying36 k0
      obtain ⟨ds, hD, hw⟩ := dems_of_trod k1
      obtain ⟨n2, e2, _, w2⟩ := DataW.trod_int Tryz.underlying36 k2
      simp only [List.cons.injEq, and_true] at e0 e2
      subst e0 e2
      have u0 := u64_in w0
      have u2 := u64_in w2
      refine ⟨⟨n0.toNat, ds, n2.toNat⟩, ⟨?_, ⟨c1, hc 1 c1 rfl, hD⟩, ?_⟩, by show n0.toNat < _; omega, by show n2.toNat < _; omega, hw⟩
      · rw [show ((n0.toNat : Nat) : Int) = n0 by omega]
        exact hc 0 _ rfl
      · rw [show ((n2.toNat : Nat) : Int) = n2 by omega]
        exact hc 2 _ rfl
theorem open_inputs {r0 : Reach} {b0 : Nat} {v : Value} {d : DataW H} {p : List MemPlace} (hv : Value.okWide Tryz.prog W r0 b0 25 v) (h : DataW.Trod enc Tryz.prog W base spare held 25 v d p) : ∃ xs, SlR InpR 3 Any W v xs ∧ ∀ x ∈ xs, x.ok := by
  obtain ⟨a, len, cap, rfl⟩ := okWide_slice Tryz.underlying25 hv
  obtain ⟨fuel, hf⟩ := h
  exact inputs_of_trod hf
/-- what is done with a timer: Kind, ID, After -/
def ActR (w : World) (b o : Nat) (x : Int × Int × Int) : Prop :=
  w.cell? ⟨b, o, none⟩ = some (.int .i64 x.1) ∧ w.cell? ⟨b, o + 1, none⟩ = some (.int .i64 x.2.1) ∧ w.cell? ⟨b, o + 2, none⟩ = some (.int .i64 x.2.2)
end
theorem SlR.ext {α : Type} {R : World → Nat → Nat → α → Prop} {sz : Nat} {w w' : World} {v : Value} {xs : List α} (h : SlR R sz Any w v xs) (hR : ∀ b o x, R w b o x → R w' b o x) : SlR R sz Any w' v xs := h.to hR
theorem DemR.ext {w w' : World} {b o : Nat} {xs : List Int} (h : DemR w b o xs) (hx : Ext w w') : DemR w' b o xs := by
  obtain ⟨r, h1, h2⟩ := h
  exact ⟨r, hx.cell h1, h2.ext hx⟩
theorem InpR.ext {w w' : World} {b o : Nat} {x : Inp} (h : InpR w b o x) (hx : Ext w w') : InpR w' b o x := by
  obtain ⟨h1, ⟨vd, h2, h3⟩, h4⟩ := h
  exact ⟨hx.cell h1, ⟨vd, hx.cell h2, h3.ext fun _ _ _ h => h.ext hx⟩, hx.cell h4⟩
theorem ActR.ext {w w' : World} {b o : Nat} {x : Int × Int × Int} (h : ActR w b o x) (hx : Ext w w') : ActR w' b o x := ⟨hx.cell h.1, hx.cell h.2.1, hx.cell h.2.2⟩
theorem SlR.at {α : Type} {R : World → Nat → Nat → α → Prop} {sz : Nat} {w : World} {A : Option Addr} {n c : Nat} {xs : List α} (h : SlR R sz Any w (.slice A n c) xs) {k : Nat} (hk : k < xs.length) : ∃ b o, A = some ⟨b, o, none⟩ ∧ R w b (o + k * sz) xs[k] := by
  obtain ⟨A', c', e1, _, _, h3⟩ := h
  obtain ⟨rfl, _, rfl⟩ := Value.slice.inj e1
  obtain ⟨b, o, e, _, hx⟩ := h3 (fun e => by rw [e] at hk; simp at hk)
  exact ⟨b, o, e, hx k hk⟩
theorem SlR.form {α : Type} {R : World → Nat → Nat → α → Prop} {sz : Nat} {w : World} {v : Value} {xs : List α} (h : SlR R sz Any w v xs) : ∃ A c, v = .slice A xs.length c ∧ xs.length ≤ c ∧ c ≤ maxLen := by
  obtain ⟨A, c, e, h1, h2, _⟩ := h
  exact ⟨A, c, e, h1, h2⟩
end Go.Proofs.YtniejidekflmiaaGreatDoor
