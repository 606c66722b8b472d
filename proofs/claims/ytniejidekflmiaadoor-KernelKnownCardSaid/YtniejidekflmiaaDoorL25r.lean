/- law 25: who comes too early, or has a job, is refused; what it asks for too much is cut. -/
import Derived.Test.YtniejidekflmiaaDoorProg
import Derived.Test.YtniejidekflmiaaDoorBase
import Derived.Test.YtniejidekflmiaaDoorHeldX
import Derived.Test.YtniejidekflmiaaDoorHeldN
import Derived.Test.YtniejidekflmiaaDoorApp
import Derived.Test.YtniejidekflmiaaDoorExt0
import Derived.Test.YtniejidekflmiaaDoorChg
import Derived.Test.YtniejidekflmiaaDoorRowB
import Derived.Test.YtniejidekflmiaaDoorKM
import Derived.Test.YtniejidekflmiaaDoorKP1
import Derived.Test.YtniejidekflmiaaDoorKO
import Derived.Test.YtniejidekflmiaaDoorKC
import Derived.Test.YtniejidekflmiaaDoorOpenI
import Derived.Test.YtniejidekflmiaaDoorKker
import Derived.Test.YtniejidekflmiaaDoorTskZ
import Derived.Test.YtniejidekflmiaaDoorTskA
import Derived.Test.YtniejidekflmiaaDoorSetO
import Derived.Test.YtniejidekflmiaaDoorKch
import Derived.Test.YtniejidekflmiaaDoorEvO
import Derived.Test.YtniejidekflmiaaDoorKrn
import Derived.Deep.Cut
import Derived.Lib.Hide
import Derived.OwnWalk
import Derived.Maps.AppendAt
import Derived.BigQuiet
namespace Go.Proofs.YtniejidekflmiaaDoor
open Go.RowKit
attribute [local go_sem] setCell_twice ByteArray.toList_eq str_list Ext.alloc Ext.drew
set_option linter.unusedSimpArgs false
set_option linter.unusedVariables false
set_option maxRecDepth 100000
set_option maxHeartbeats 1600000
attribute [local irreducible] Calls

section
variable {P : Program}
/-- a row of events of the call's own, some more behind it -/
theorem own_lit {α : Type} {enc : α → List Value} {size : Nat} (hsz : ∀ x, (enc x).length = size) {xs : List α} {w : World} {base g n : Nat} {t : TypeId} (h : Blk w g (xs.flatMap enc).toArray t) (hb : base ≤ g) (hn : n = xs.length) (hl : n ≤ 1000) : OwnL enc w base t size (.slice (some ⟨g, 0, none⟩) n n) xs := by
  subst hn
  have hfl : (xs.flatMap enc).length = xs.length * size := by
    rw [List.length_flatMap]
    simp [hsz, List.map_const', Nat.mul_comm]
  exact ⟨hfl, .inr ⟨g, xs.length, _, rfl, hb, h, Nat.le_refl _, by unfold maxLen; omega, by rw [List.size_toArray]; exact hfl, by rw [← hfl]; exact List.take_length⟩⟩
end
theorem wpList_app_ev {w : World} {ops : Array Oper} {rest : List Oper} {o : Oper} {a : Act} {Q : Exit → Act → World → Prop} (hgd : o.guard = none) (s x : Operand)
    (ho : o.op = .call { callee := .builtin .append, args := #[s, x], argTypes := #[28, 28] }) (base : Nat) (E1 E2 : List Ev) (v : Value) (hs : a.eval s = v) (hown : OwnL encEv w base 41 4 v E1) (g n : Nat)
    (hx : a.eval x = .slice (some ⟨g, 0, none⟩) n n) (hn : n = E2.length) (hB : Blk w g (E2.flatMap encEv).toArray 41) (hl : E1.length + E2.length ≤ 1000) (hb : base ≤ w.heap.size)
    (h : ∀ v' w', OwnL encEv w' base 41 4 v' (E1 ++ E2) → w.grownBy w' v.ownBlock → (v'.ownBlock = v.ownBlock ∨ v'.ownBlock = some w.heap.size) → wpList Tryd.prog ops Q rest (a.put o.dst v') w') : wpList Tryd.prog ops Q (o :: rest) a w := by
  subst hn
  have hfl : (E2.flatMap encEv).length = E2.length * 4 := by
    rw [List.length_flatMap]
    simp [encEv_len, List.map_const', Nat.mul_comm]
  refine wpList_append_row hgd s x 28 ho base 41 Tryd.underlying28 infoEv rfl (by decide) v E1.length (E1.flatMap encEv) hs hown (some ⟨g, 0, none⟩) E2.length E2.length (E2.flatMap encEv) hx hfl (fun _ => ⟨g, 0, rfl, fun j u hu => ?_⟩) (fun u hu => by obtain ⟨x, _, hx⟩ := List.mem_flatMap.1 hu; exact encEv_one x u hx) (by omega) (by unfold maxLen; omega) hb fun v' w' h2 h3 h4 _ => ?_
  · rw [hB.cell, Nat.zero_add, List.getElem?_toArray]
    exact hu
  · refine h v' w' ?_ h3 h4
    unfold OwnL
    rw [List.flatMap_append, List.length_append]
    exact h2
theorem tasks_two' {w : World} {g : Nat} {t u : Tsk} {r r' : Value} {e : TypeId} (hT : Blk w g #[.string t.name, .int .i64 t.T, .int .i64 t.D, .int .i64 t.mode, .int .i64 t.q, .int .i64 t.theta, r, .int .u64 t.ecb, .int .u64 t.ucb, .string u.name, .int .i64 u.T, .int .i64 u.D, .int .i64 u.mode, .int .i64 u.q, .int .i64 u.theta, r', .int .u64 u.ecb, .int .u64 u.ucb] e) (hI : Ints w r t.regs) (hJ : Ints w r' u.regs) : Tasks w (.slice (some ⟨g, 0, none⟩) 2 2) [t, u] := by
  refine ⟨_, 2, rfl, Nat.le_refl _, by unfold maxLen; decide, fun _ => ⟨g, 0, rfl, fun i hi => ?_⟩⟩
  have hi0 : i = 0 ∨ i = 1 := by simp at hi; omega
  rcases hi0 with rfl | rfl
  · exact ⟨r, hI, hT.cell 0, hT.cell 1, hT.cell 2, hT.cell 3, hT.cell 4, hT.cell 5, hT.cell 6, hT.cell 7, hT.cell 8⟩
  · exact ⟨r', hJ, hT.cell 9, hT.cell 10, hT.cell 11, hT.cell 12, hT.cell 13, hT.cell 14, hT.cell 15, hT.cell 16, hT.cell 17⟩
theorem rSw_all : allB rSw = true := by decide +kernel
theorem rSw_fit : rSw.fit := by
  refine ⟨by decide, by decide, fun t ht => ?_⟩
  have ht2 : t = ⟨bA, 3, 3, 0, 0, 0, [2], 0, 0⟩ ∨ t = ⟨bB, 4, 1, 0, 0, 0, [1], 0, 0⟩ := by simpa [rSw] using ht
  rcases ht2 with rfl | rfl
  · refine ⟨by decide, by decide, by decide, by decide, by decide, by decide, by decide, by decide, by decide, fun n hn => ?_⟩
    obtain rfl : n = 2 := by simpa using hn
    decide
  · refine ⟨by decide, by decide, by decide, by decide, by decide, by decide, by decide, by decide, by decide, fun n hn => ?_⟩
    obtain rfl : n = 1 := by simpa using hn
    decide
theorem kernelRefuses_walk (n : Int) (w : World) (hn : (Lit.int .i64 n).wf = true) (hG : G25 w) :
    Calls Tryd.prog 6 #[.int .i64 n] w fun e w' => e = .returned (.bool true) ∧ Below w.heap.size w w' := by
  cases d1 : decide (n < 1) with
  | true =>
    go_enter Tryd.func6, Tryd.ntmps6
    go_wp2_with (fail)
    go_ret
    exact ⟨rfl, Below.refl _ _⟩
  | false =>
  cases d2 : decide (30 < n) with
  | true =>
    go_enter Tryd.func6, Tryd.ntmps6
    go_wp2_with (fail)
    go_ret
    exact ⟨rfl, Below.refl _ _⟩
  | false =>
    have b1 := of_decide_eq_false d1
    have b2 := of_decide_eq_false d2
    have HR := Lib.hid fun (v vl : Value) (W : World) (hv : Tasks W v rSw.tasks) (hl : SlR InpR 3 Any W vl (rIw n)) (h : G25 W) => runs25_any rSw v vl (rIw n) W hv rSw_fit.good h.gok rSw_all (kh_of rSw_all rSw_fit) hl (fun x hx => by
      simp only [rIw, List.mem_cons, List.not_mem_nil, or_false] at hx
      rcases hx with rfl | rfl | rfl <;> refine ⟨by simp, by simp, fun y hy z hz => ?_⟩
      · have hy2 : y = [n] := by simpa using hy
        subst hy2
        obtain rfl : z = n := by simpa using hz
        exact hn
      · cases hy
      · cases hy) (by simp [rIw]) h.db
    rw [rE_eq (show 1 ≤ n ∧ n ≤ 30 by omega)] at HR
    obtain ⟨L, hL⟩ : ∃ L, (if n = 1 then rE1 else if n = 2 then rE2 else rE3) = L := ⟨_, rfl⟩
    rw [hL] at HR
    have HL := Lib.hid hL
    clear hL
    have HKN := Lib.hid fun w' (hx : Ext w w') => known25_any w' (hG.ext hx)
    have hGW := fun W (h : Ext w W) => hG.ext h
    have HG := Lib.hid hGW
    clear hGW hG hn
    go_enter Tryd.func6, Tryd.ntmps6
    go_wp2_with (fail)
    generalize hW : World.alloc _ (.cells _ 48) = W
    have hX : Ext w W := by rw [← hW]; exact ((((((((Ext.refl w).alloc _).alloc _).alloc _).alloc _).alloc _).alloc _).alloc _).alloc _
    have hI : Blk W w.heap.size #[.int .i64 2] 2 := by rw [← hW]; exact (((((((Blk.new _ _ _).alloc _).alloc _).alloc _).alloc _).alloc _).alloc _).alloc _
    have hJ : Blk W (w.heap.size + 1) #[.int .i64 1] 2 := by rw [← hW]; exact ((((((Blk.new_at _ _ _ _ (by simp)).alloc _).alloc _).alloc _).alloc _).alloc _).alloc _
    have hT : Blk W (w.heap.size + 1 + 1) #[.string bA, .int .i64 3, .int .i64 3, .int .i64 0, .int .i64 0, .int .i64 0, .slice (some ⟨w.heap.size, 0, none⟩) 1 1, .int .u64 0, .int .u64 0, .string bB, .int .i64 4, .int .i64 1, .int .i64 0, .int .i64 0, .int .i64 0, .slice (some ⟨w.heap.size + 1, 0, none⟩) 1 1, .int .u64 0, .int .u64 0] 45 := by rw [← hW]; exact (((((Blk.new_at _ _ _ _ (by simp)).alloc _).alloc _).alloc _).alloc _).alloc _
    have hN1 : Blk W (w.heap.size + 1 + 1 + 1 + 1) #[.int .i64 n] 2 := by rw [← hW]; exact (((Blk.new_at _ _ _ _ (by simp)).alloc _).alloc _).alloc _
    have hN2 : Blk W (w.heap.size + 1 + 1 + 1 + 1 + 1) #[.int .i64 n] 2 := by rw [← hW]; exact ((Blk.new_at _ _ _ _ (by simp)).alloc _).alloc _
    have hD : Blk W (w.heap.size + 1 + 1 + 1 + 1 + 1 + 1) #[.slice (some ⟨w.heap.size + 1 + 1 + 1 + 1, 0, none⟩) 1 1, .slice (some ⟨w.heap.size + 1 + 1 + 1 + 1 + 1, 0, none⟩) 1 1] 42 := by rw [← hW]; exact (Blk.new_at _ _ _ _ (by simp)).alloc _
    have hP : Blk W (w.heap.size + 1 + 1 + 1 + 1 + 1 + 1 + 1) #[.int .u64 7, .slice (some ⟨w.heap.size + 1 + 1 + 1 + 1 + 1 + 1, 0, none⟩) 2 2, .int .u64 0, .int .u64 3, .slice none 0 0, .int .u64 0, .int .u64 2, .slice none 0 0, .int .u64 0] 48 := by rw [← hW]; exact Blk.new_at _ _ _ _ (by simp)
    have hv : Tasks W (.slice (some ⟨w.heap.size + 1 + 1, 0, none⟩) 2 2) rSw.tasks := tasks_two' (t := ⟨bA, 3, 3, 0, 0, 0, [2], 0, 0⟩) (u := ⟨bB, 4, 1, 0, 0, 0, [1], 0, 0⟩) hT (ints_one' hI) (ints_one' hJ)
    have hds : SlR DemR 1 Any W (.slice (some ⟨w.heap.size + 1 + 1 + 1 + 1 + 1 + 1, 0, none⟩) 2 2) [[n], [n]] := dems_blk (ds := [[n], [n]]) (vs := [.slice (some ⟨w.heap.size + 1 + 1 + 1 + 1, 0, none⟩) 1 1, .slice (some ⟨w.heap.size + 1 + 1 + 1 + 1 + 1, 0, none⟩) 1 1]) hD rfl (by simp) (fun i h1 h2 => by
      have hi : i = 0 ∨ i = 1 := by simp at h1; omega
      rcases hi with rfl | rfl
      · exact ints_one' hN1
      · exact ints_one' hN2)
    have hl : SlR InpR 3 Any W (.slice (some ⟨w.heap.size + 1 + 1 + 1 + 1 + 1 + 1 + 1, 0, none⟩) 3 3) (rIw n) := inps_blk (ps := [(.slice (some ⟨w.heap.size + 1 + 1 + 1 + 1 + 1 + 1, 0, none⟩) 2 2, ⟨7, [[n], [n]], 0⟩), (.slice none 0 0, ⟨3, [], 0⟩), (.slice none 0 0, ⟨2, [], 0⟩)]) hP (by simp) (fun p hp => by
      simp only [List.mem_cons, List.not_mem_nil, or_false] at hp
      rcases hp with rfl | rfl | rfl
      · exact hds
      · exact dems_none W
      · exact dems_none W)
    have hR := HR.out _ _ W hv hl (HG.out W hX)
    unfold setV at hR
    have HR2 := Lib.hid hR
    clear hR HR hW hI hJ hT hN1 hN2 hD hP hv hds hl
    refine HR2.out.mono ?_
    rintro e W2 ⟨vo, rfl, hO, hX2⟩
    have hXW2 := hX.trans hX2
    obtain ⟨Ao, co, rfl, _, _⟩ := OwnL.form hO
    have HE := Lib.hid (OwnL.evs hO)
    clear hO
    go_upto_region 8 with (fail)
    have hO0 : OwnL encEv ((W2.alloc (.cells #[.int .i64 0, .int .i64 1, .int .i64 0, .int .i64 0, .int .i64 0, .int .i64 1, .int .i64 1, .int .i64 0, .int .i64 0, .int .i64 4, .int .i64 0, .int .i64 0] 41)).alloc (.cells #[.int .i64 1, .int .i64 9, .int .i64 0, .int .i64 2] 41)) W2.heap.size 41 4 (.slice (some ⟨W2.heap.size, 0, none⟩) 3 3) [⟨0, 1, 0, 0⟩, ⟨0, 1, 1, 0⟩, ⟨0, 4, 0, 0⟩] := OwnL.alloc (own_lit (xs := [⟨0, 1, 0, 0⟩, ⟨0, 1, 1, 0⟩, ⟨0, 4, 0, 0⟩]) encEv_len (Blk.new _ _ _) (Nat.le_refl _) rfl (by decide)) _
    have hb0 : Blk ((W2.alloc (.cells #[.int .i64 0, .int .i64 1, .int .i64 0, .int .i64 0, .int .i64 0, .int .i64 1, .int .i64 1, .int .i64 0, .int .i64 0, .int .i64 4, .int .i64 0, .int .i64 0] 41)).alloc (.cells #[.int .i64 1, .int .i64 9, .int .i64 0, .int .i64 2] 41)) (W2.heap.size + 1) #[.int .i64 1, .int .i64 9, .int .i64 0, .int .i64 2] 41 := Blk.new_at _ _ _ _ (by simp)
    have hX0 : Ext W2 ((W2.alloc (.cells #[.int .i64 0, .int .i64 1, .int .i64 0, .int .i64 0, .int .i64 0, .int .i64 1, .int .i64 1, .int .i64 0, .int .i64 0, .int .i64 4, .int .i64 0, .int .i64 0] 41)).alloc (.cells #[.int .i64 1, .int .i64 9, .int .i64 0, .int .i64 2] 41)) := ((Ext.refl W2).alloc _).alloc _
    have hn0 : (Value.slice (some ⟨W2.heap.size, 0, none⟩) 3 3).ownBlock ≠ some (W2.heap.size + 1) := fun e => by have h2 := Option.some.inj (show some W2.heap.size = some (W2.heap.size + 1) from e); omega
    generalize hW0 : World.alloc (World.alloc W2 _) _ = W0 at hO0 hb0 hX0 ⊢
    clear hW0
    have HO0 := Lib.hid hO0
    by_cases n1 : n = 1
    · subst n1
      have hL : L = rE1 := by rw [← HL.out]; rfl
      subst hL
      have hc0 := hb0.cell
      go_wp2_with (first | (at_builtin; (refine wpList_app_ev rfl _ _ rfl W2.heap.size ([⟨0, 1, 0, 0⟩, ⟨0, 1, 1, 0⟩, ⟨0, 4, 0, 0⟩] ++ [⟨0, 7, 0, 0⟩, ⟨0, 8, 0, 1⟩] ++ [⟨1, 3, 1, 0⟩, ⟨1, 2, 0, 1⟩, ⟨1, 2, 1, 1⟩]) [⟨1, 4, 1, 0⟩, ⟨1, 7, 1, 0⟩, ⟨1, 8, 1, 2⟩, ⟨2, 2, 1, 1⟩, ⟨2, 10, -1, 0⟩] _ rfl (OwnL.alloc hO2 _) _ 5 rfl rfl (Blk.new _ _ _) (by decide) ?_ ?_; (· have := hX2.size; rw [size_alloc]; omega); (intro v3 w3 hO3 hg3 hl3; have hb3 := (hb2.alloc (.cells #[.int .i64 1, .int .i64 4, .int .i64 1, .int .i64 0, .int .i64 1, .int .i64 7, .int .i64 1, .int .i64 0, .int .i64 1, .int .i64 8, .int .i64 1, .int .i64 2, .int .i64 2, .int .i64 2, .int .i64 1, .int .i64 1, .int .i64 2, .int .i64 10, .int .i64 (-1), .int .i64 0] 41)).grown hg3 hn2; have hc3 := hb3.cell; have hX3 := (hX2.alloc (.cells #[.int .i64 1, .int .i64 4, .int .i64 1, .int .i64 0, .int .i64 1, .int .i64 7, .int .i64 1, .int .i64 0, .int .i64 1, .int .i64 8, .int .i64 1, .int .i64 2, .int .i64 2, .int .i64 2, .int .i64 1, .int .i64 1, .int .i64 2, .int .i64 10, .int .i64 (-1), .int .i64 0] 41)).grown hg3 (fun q hq => (OwnL.lt hO2 q hq).1); have hn3 : v3.ownBlock ≠ some (W2.heap.size + 1) := (fun e => by rcases hl3 with h | h; (· exact hn2 (h.symm.trans e)); (· have h1 := hb2.lt; rw [h] at e; have h2 := Option.some.inj e; rw [size_alloc] at h2; omega)); obtain ⟨A3, c3, e3, _, _⟩ := OwnL.form hO3; subst e3; clear hc2))) | (at_builtin; (refine wpList_app_ev rfl _ _ rfl W2.heap.size ([⟨0, 1, 0, 0⟩, ⟨0, 1, 1, 0⟩, ⟨0, 4, 0, 0⟩] ++ [⟨0, 7, 0, 0⟩, ⟨0, 8, 0, 1⟩]) [⟨1, 3, 1, 0⟩, ⟨1, 2, 0, 1⟩, ⟨1, 2, 1, 1⟩] _ rfl (OwnL.alloc hO1 _) _ 3 rfl rfl (Blk.new _ _ _) (by decide) ?_ ?_; (· have := hX1.size; rw [size_alloc]; omega); (intro v2 w2 hO2 hg2 hl2; have hb2 := (hb1.alloc (.cells #[.int .i64 1, .int .i64 3, .int .i64 1, .int .i64 0, .int .i64 1, .int .i64 2, .int .i64 0, .int .i64 1, .int .i64 1, .int .i64 2, .int .i64 1, .int .i64 1] 41)).grown hg2 hn1; have hc2 := hb2.cell; have hX2 := (hX1.alloc (.cells #[.int .i64 1, .int .i64 3, .int .i64 1, .int .i64 0, .int .i64 1, .int .i64 2, .int .i64 0, .int .i64 1, .int .i64 1, .int .i64 2, .int .i64 1, .int .i64 1] 41)).grown hg2 (fun q hq => (OwnL.lt hO1 q hq).1); have hn2 : v2.ownBlock ≠ some (W2.heap.size + 1) := (fun e => by rcases hl2 with h | h; (· exact hn1 (h.symm.trans e)); (· have h1 := hb1.lt; rw [h] at e; have h2 := Option.some.inj e; rw [size_alloc] at h2; omega)); obtain ⟨A2, c2, e2, _, _⟩ := OwnL.form hO2; subst e2; clear hc1))) | (at_builtin; (refine wpList_app_ev rfl _ _ rfl W2.heap.size ([⟨0, 1, 0, 0⟩, ⟨0, 1, 1, 0⟩, ⟨0, 4, 0, 0⟩]) [⟨0, 7, 0, 0⟩, ⟨0, 8, 0, 1⟩] _ rfl (OwnL.alloc hO0 _) _ 2 rfl rfl (Blk.new _ _ _) (by decide) ?_ ?_; (· have := hX0.size; rw [size_alloc]; omega); (intro v1 w1 hO1 hg1 hl1; have hb1 := (hb0.alloc (.cells #[.int .i64 0, .int .i64 7, .int .i64 0, .int .i64 0, .int .i64 0, .int .i64 8, .int .i64 0, .int .i64 1] 41)).grown hg1 hn0; have hc1 := hb1.cell; have hX1 := (hX0.alloc (.cells #[.int .i64 0, .int .i64 7, .int .i64 0, .int .i64 0, .int .i64 0, .int .i64 8, .int .i64 0, .int .i64 1] 41)).grown hg1 (fun q hq => (OwnL.lt hO0 q hq).1); have hn1 : v1.ownBlock ≠ some (W2.heap.size + 1) := (fun e => by rcases hl1 with h | h; (· exact hn0 (h.symm.trans e)); (· have h1 := hb0.lt; rw [h] at e; have h2 := Option.some.inj e; rw [size_alloc] at h2; omega)); obtain ⟨A1, c1, e1, _, _⟩ := OwnL.form hO1; subst e1; clear hc0))))
      refine (sameEv_any _ _ rE1 rE1 _ (HE.out.ext hX3) (OwnL.evs hO3)).mono ?_
      rintro e w9 ⟨rfl, hX9⟩
      rw [decide_eq_true rfl]
      go_wp2_with (fail)
      refine (HKN.out w9 (hXW2.trans (hX3.trans hX9))).mono ?_
      rintro e w10 ⟨rfl, hb10⟩
      go_wp2_with (fail)
      go_ret
      exact ⟨rfl, ((hXW2.trans (hX3.trans hX9)).call hb10).below⟩
    · have e1 : (n == 1) = false := by rw [beq_eq_false_iff_ne]; exact n1
      by_cases n2 : n = 2
      · subst n2
        have hL : L = rE2 := by rw [← HL.out]; rfl
        subst hL
        have hf0 := hb0.free
        have hc0' := hb0.cell
        have hb0' := hb0.set 1 (.int .i64 8)
        simp only [List.setIfInBounds_toArray, List.set_cons_zero, List.set_cons_succ] at hb0'
        go_upto_region 13 with (fail)
        have hO0 := OwnL.set hO0 (a := ⟨W2.heap.size + 1, 1, none⟩) hn0 (.int .i64 8)
        have hX0 := hX0.set (g := W2.heap.size + 1) (i := 1) (by omega) (.int .i64 8)
        have hb0 := hb0'
        clear hf0 hc0' hb0' HO0
        generalize World.setCell W0 _ _ = W0' at hO0 hb0 hX0 ⊢
        have hc0 := hb0.cell
        go_wp2_with (first | (at_builtin; (refine wpList_app_ev rfl _ _ rfl W2.heap.size ([⟨0, 1, 0, 0⟩, ⟨0, 1, 1, 0⟩, ⟨0, 4, 0, 0⟩] ++ [⟨1, 3, 1, 0⟩, ⟨1, 2, 0, 1⟩, ⟨1, 2, 1, 1⟩] ++ [⟨1, 7, 0, 0⟩]) [⟨1, 8, 0, 2⟩, ⟨2, 2, 1, 1⟩, ⟨2, 4, 1, 0⟩, ⟨2, 9, 1, 3⟩] _ rfl (OwnL.alloc hO2 _) _ 4 rfl rfl (Blk.new _ _ _) (by decide) ?_ ?_; (· have := hX2.size; rw [size_alloc]; omega); (intro v3 w3 hO3 hg3 hl3; have hb3 := (hb2.alloc (.cells #[.int .i64 1, .int .i64 8, .int .i64 0, .int .i64 2, .int .i64 2, .int .i64 2, .int .i64 1, .int .i64 1, .int .i64 2, .int .i64 4, .int .i64 1, .int .i64 0, .int .i64 2, .int .i64 9, .int .i64 1, .int .i64 3] 41)).grown hg3 hn2; have hc3 := hb3.cell; have hX3 := (hX2.alloc (.cells #[.int .i64 1, .int .i64 8, .int .i64 0, .int .i64 2, .int .i64 2, .int .i64 2, .int .i64 1, .int .i64 1, .int .i64 2, .int .i64 4, .int .i64 1, .int .i64 0, .int .i64 2, .int .i64 9, .int .i64 1, .int .i64 3] 41)).grown hg3 (fun q hq => (OwnL.lt hO2 q hq).1); have hn3 : v3.ownBlock ≠ some (W2.heap.size + 1) := (fun e => by rcases hl3 with h | h; (· exact hn2 (h.symm.trans e)); (· have h1 := hb2.lt; rw [h] at e; have h2 := Option.some.inj e; rw [size_alloc] at h2; omega)); obtain ⟨A3, c3, e3, _, _⟩ := OwnL.form hO3; subst e3; clear hc2))) | (at_builtin; (refine wpList_app_ev rfl _ _ rfl W2.heap.size ([⟨0, 1, 0, 0⟩, ⟨0, 1, 1, 0⟩, ⟨0, 4, 0, 0⟩] ++ [⟨1, 3, 1, 0⟩, ⟨1, 2, 0, 1⟩, ⟨1, 2, 1, 1⟩]) [⟨1, 7, 0, 0⟩] _ rfl (OwnL.alloc hO1 _) _ 1 rfl rfl (Blk.new _ _ _) (by decide) ?_ ?_; (· have := hX1.size; rw [size_alloc]; omega); (intro v2 w2 hO2 hg2 hl2; have hb2 := (hb1.alloc (.cells #[.int .i64 1, .int .i64 7, .int .i64 0, .int .i64 0] 41)).grown hg2 hn1; have hc2 := hb2.cell; have hX2 := (hX1.alloc (.cells #[.int .i64 1, .int .i64 7, .int .i64 0, .int .i64 0] 41)).grown hg2 (fun q hq => (OwnL.lt hO1 q hq).1); have hn2 : v2.ownBlock ≠ some (W2.heap.size + 1) := (fun e => by rcases hl2 with h | h; (· exact hn1 (h.symm.trans e)); (· have h1 := hb1.lt; rw [h] at e; have h2 := Option.some.inj e; rw [size_alloc] at h2; omega)); obtain ⟨A2, c2, e2, _, _⟩ := OwnL.form hO2; subst e2; clear hc1))) | (at_builtin; (refine wpList_app_ev rfl _ _ rfl W2.heap.size ([⟨0, 1, 0, 0⟩, ⟨0, 1, 1, 0⟩, ⟨0, 4, 0, 0⟩]) [⟨1, 3, 1, 0⟩, ⟨1, 2, 0, 1⟩, ⟨1, 2, 1, 1⟩] _ rfl (OwnL.alloc hO0 _) _ 3 rfl rfl (Blk.new _ _ _) (by decide) ?_ ?_; (· have := hX0.size; rw [size_alloc]; omega); (intro v1 w1 hO1 hg1 hl1; have hb1 := (hb0.alloc (.cells #[.int .i64 1, .int .i64 3, .int .i64 1, .int .i64 0, .int .i64 1, .int .i64 2, .int .i64 0, .int .i64 1, .int .i64 1, .int .i64 2, .int .i64 1, .int .i64 1] 41)).grown hg1 hn0; have hc1 := hb1.cell; have hX1 := (hX0.alloc (.cells #[.int .i64 1, .int .i64 3, .int .i64 1, .int .i64 0, .int .i64 1, .int .i64 2, .int .i64 0, .int .i64 1, .int .i64 1, .int .i64 2, .int .i64 1, .int .i64 1] 41)).grown hg1 (fun q hq => (OwnL.lt hO0 q hq).1); have hn1 : v1.ownBlock ≠ some (W2.heap.size + 1) := (fun e => by rcases hl1 with h | h; (· exact hn0 (h.symm.trans e)); (· have h1 := hb0.lt; rw [h] at e; have h2 := Option.some.inj e; rw [size_alloc] at h2; omega)); obtain ⟨A1, c1, e1, _, _⟩ := OwnL.form hO1; subst e1; clear hc0))))
        refine (sameEv_any _ _ rE2 rE2 _ (HE.out.ext hX3) (OwnL.evs hO3)).mono ?_
        rintro e w9 ⟨rfl, hX9⟩
        rw [decide_eq_true rfl]
        go_wp2_with (fail)
        refine (HKN.out w9 (hXW2.trans (hX3.trans hX9))).mono ?_
        rintro e w10 ⟨rfl, hb10⟩
        go_wp2_with (fail)
        go_ret
        exact ⟨rfl, ((hXW2.trans (hX3.trans hX9)).call hb10).below⟩
      · have e2 : (n == 2) = false := by rw [beq_eq_false_iff_ne]; exact n2
        have hL : L = rE3 := by rw [← HL.out, if_neg n1, if_neg n2]
        subst hL
        have hc0 := hb0.cell
        go_wp2_with (first | (at_builtin; (refine wpList_app_ev rfl _ _ rfl W2.heap.size ([⟨0, 1, 0, 0⟩, ⟨0, 1, 1, 0⟩, ⟨0, 4, 0, 0⟩] ++ [⟨1, 3, 1, 0⟩, ⟨1, 2, 0, 1⟩, ⟨1, 2, 1, 1⟩]) [⟨1, 9, 0, 2⟩, ⟨2, 2, 1, 1⟩, ⟨2, 4, 1, 0⟩, ⟨2, 9, 1, 3⟩] _ rfl (OwnL.alloc hO1 _) _ 4 rfl rfl (Blk.new _ _ _) (by decide) ?_ ?_; (· have := hX1.size; rw [size_alloc]; omega); (intro v2 w2 hO2 hg2 hl2; have hb2 := (hb1.alloc (.cells #[.int .i64 1, .int .i64 9, .int .i64 0, .int .i64 2, .int .i64 2, .int .i64 2, .int .i64 1, .int .i64 1, .int .i64 2, .int .i64 4, .int .i64 1, .int .i64 0, .int .i64 2, .int .i64 9, .int .i64 1, .int .i64 3] 41)).grown hg2 hn1; have hc2 := hb2.cell; have hX2 := (hX1.alloc (.cells #[.int .i64 1, .int .i64 9, .int .i64 0, .int .i64 2, .int .i64 2, .int .i64 2, .int .i64 1, .int .i64 1, .int .i64 2, .int .i64 4, .int .i64 1, .int .i64 0, .int .i64 2, .int .i64 9, .int .i64 1, .int .i64 3] 41)).grown hg2 (fun q hq => (OwnL.lt hO1 q hq).1); have hn2 : v2.ownBlock ≠ some (W2.heap.size + 1) := (fun e => by rcases hl2 with h | h; (· exact hn1 (h.symm.trans e)); (· have h1 := hb1.lt; rw [h] at e; have h2 := Option.some.inj e; rw [size_alloc] at h2; omega)); obtain ⟨A2, c2, e2, _, _⟩ := OwnL.form hO2; subst e2; clear hc1))) | (at_builtin; (refine wpList_app_ev rfl _ _ rfl W2.heap.size ([⟨0, 1, 0, 0⟩, ⟨0, 1, 1, 0⟩, ⟨0, 4, 0, 0⟩]) [⟨1, 3, 1, 0⟩, ⟨1, 2, 0, 1⟩, ⟨1, 2, 1, 1⟩] _ rfl (OwnL.alloc hO0 _) _ 3 rfl rfl (Blk.new _ _ _) (by decide) ?_ ?_; (· have := hX0.size; rw [size_alloc]; omega); (intro v1 w1 hO1 hg1 hl1; have hb1 := (hb0.alloc (.cells #[.int .i64 1, .int .i64 3, .int .i64 1, .int .i64 0, .int .i64 1, .int .i64 2, .int .i64 0, .int .i64 1, .int .i64 1, .int .i64 2, .int .i64 1, .int .i64 1] 41)).grown hg1 hn0; have hc1 := hb1.cell; have hX1 := (hX0.alloc (.cells #[.int .i64 1, .int .i64 3, .int .i64 1, .int .i64 0, .int .i64 1, .int .i64 2, .int .i64 0, .int .i64 1, .int .i64 1, .int .i64 2, .int .i64 1, .int .i64 1] 41)).grown hg1 (fun q hq => (OwnL.lt hO0 q hq).1); have hn1 : v1.ownBlock ≠ some (W2.heap.size + 1) := (fun e => by rcases hl1 with h | h; (· exact hn0 (h.symm.trans e)); (· have h1 := hb0.lt; rw [h] at e; have h2 := Option.some.inj e; rw [size_alloc] at h2; omega)); obtain ⟨A1, c1, e1, _, _⟩ := OwnL.form hO1; subst e1; clear hc0))))
        refine (sameEv_any _ _ rE3 rE3 _ (HE.out.ext hX2) (OwnL.evs hO2)).mono ?_
        rintro e w9 ⟨rfl, hX9⟩
        rw [decide_eq_true rfl]
        go_wp2_with (fail)
        refine (HKN.out w9 (hXW2.trans (hX2.trans hX9))).mono ?_
        rintro e w10 ⟨rfl, hb10⟩
        go_wp2_with (fail)
        go_ret
        exact ⟨rfl, ((hXW2.trans (hX2.trans hX9)).call hb10).below⟩
end Go.Proofs.YtniejidekflmiaaDoor
