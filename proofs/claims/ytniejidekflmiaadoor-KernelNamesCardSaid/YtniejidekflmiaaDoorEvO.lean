/- Rows of events: are two one? the last one of a task. -/
import Derived.Test.YtniejidekflmiaaDoorProg
import Derived.Test.YtniejidekflmiaaDoorBase
import Derived.Test.YtniejidekflmiaaDoorHeldX
import Derived.Test.YtniejidekflmiaaDoorHeldN
import Derived.Test.YtniejidekflmiaaDoorApp
import Derived.Test.YtniejidekflmiaaDoorExt0
import Derived.Test.YtniejidekflmiaaDoorChg
import Derived.Test.YtniejidekflmiaaDoorRowB
import Derived.Test.YtniejidekflmiaaDoorKM
import Derived.Test.YtniejidekflmiaaDoorKP1
import Derived.Test.YtniejidekflmiaaDoorKO
import Derived.Test.YtniejidekflmiaaDoorOpenI
import Derived.Test.YtniejidekflmiaaDoorKker
import Derived.Test.YtniejidekflmiaaDoorTskZ
import Derived.Test.YtniejidekflmiaaDoorTskA
import Derived.Test.YtniejidekflmiaaDoorKch
import Derived.Deep.Cut
import Derived.Lib.Hide
import Derived.OwnWalk
import Derived.BigQuiet
import Derived.Laws.StructEq
namespace Go.Proofs.YtniejidekflmiaaDoor
open Go.RowKit
attribute [local go_sem] setCell_twice ByteArray.toList_eq str_list Ext.alloc Ext.drew
set_option linter.unusedSimpArgs false
set_option linter.unusedVariables false
set_option maxRecDepth 100000
set_option maxHeartbeats 1600000
attribute [local irreducible] Calls

/-- an event's cells -/
def EvR (w : World) (b o : Nat) (e : Ev) : Prop := w.cell? ⟨b, o, none⟩ = some (.int .i64 e.tick) ∧ w.cell? ⟨b, o + 1, none⟩ = some (.int .i64 e.kind) ∧ w.cell? ⟨b, o + 2, none⟩ = some (.int .i64 e.task) ∧ w.cell? ⟨b, o + 3, none⟩ = some (.int .i64 e.n)
theorem EvR.ext {w w' : World} {b o : Nat} {e : Ev} (h : EvR w b o e) (hx : Ext w w') : EvR w' b o e := ⟨hx.cell h.1, hx.cell h.2.1, hx.cell h.2.2.1, hx.cell h.2.2.2⟩
/-- v reads as the events L -/
def Evs (w : World) (v : Value) (L : List Ev) : Prop := SlR EvR 4 Any w v L
theorem Evs.ext {w w' : World} {v : Value} {L : List Ev} (h : Evs w v L) (hx : Ext w w') : Evs w' v L := SlR.to h fun _ _ _ h => h.ext hx
theorem Evs.form {w : World} {v : Value} {L : List Ev} (h : Evs w v L) : ∃ A c, v = .slice A L.length c ∧ L.length ≤ c ∧ c ≤ maxLen := SlR.form h
theorem Evs.at {w : World} {A : Option Addr} {n c : Nat} {L : List Ev} (h : Evs w (.slice A n c) L) {k : Nat} (hk : k < L.length) : ∃ b o, A = some ⟨b, o, none⟩ ∧ ∀ w', Ext w w' →
    w'.cell? ⟨b, o + k * 4, none⟩ = some (.int .i64 (evAt L k).tick) ∧ w'.cell? ⟨b, o + k * 4 + 1, none⟩ = some (.int .i64 (evAt L k).kind) ∧ w'.cell? ⟨b, o + k * 4 + 2, none⟩ = some (.int .i64 (evAt L k).task) ∧ w'.cell? ⟨b, o + k * 4 + 3, none⟩ = some (.int .i64 (evAt L k).n) := by
  obtain ⟨b, o, e, hx⟩ := SlR.at h hk
  rw [evAt_in hk]
  exact ⟨b, o, e, fun w' hw => hx.ext hw⟩
theorem OwnL.evs {w : World} {base : Nat} {v : Value} {L : List Ev} (h : OwnL encEv w base 41 4 v L) : Evs w v L :=
  OwnL.read h encEv_len (fun _ _ _ => trivial) (fun _ _ _ _ hx => ⟨hx 0 _ rfl, hx 1 _ rfl, hx 2 _ rfl, hx 3 _ rfl⟩)
def evV (e : Ev) : Value := .agg #[.int .i64 e.tick, .int .i64 e.kind, .int .i64 e.task, .int .i64 e.n]
theorem sameEv_any (va vb : Value) (L M : List Ev) (w : World) (ha : Evs w va L) (hb : Evs w vb M) :
    Calls Tryd.prog 18 #[va, vb] w fun e w' => e = .returned (.bool (decide (L = M))) ∧ Ext w w' := by
  obtain ⟨A, c, rfl, hc1, hc2⟩ := ha.form
  obtain ⟨B, d, rfl, _, _⟩ := hb.form
  unfold maxLen at hc2
  by_cases hl : L.length = M.length
  · have hdl : ((L.length : Int) == (M.length : Int)) = true := by rw [hl]; simp
    have HL := Lib.hid hl
    have HA := Lib.hid ha
    have HB := Lib.hid hb
    clear hl ha hb
    go_enter Tryd.func18, Tryd.ntmps18
    go_wp2_with (fail)
    go_loopw [5] (fun i wr => ∃ k : Nat, k ≤ L.length ∧ i = .int .i64 k ∧ Hid (L.take k = M.take k) ∧ Ext w wr) (fun i _ => L.length - (intOf i).toNat)
    case atStart => exact ⟨0, Nat.zero_le _, rfl, Lib.hid rfl, Ext.refl w⟩
    case round =>
      obtain ⟨k, hk, rfl, ht, hX⟩ := hrel
      by_cases hlt : k < L.length
      · have hltM : k < M.length := by have := HL.out; omega
        obtain ⟨b, o, rfl, hx⟩ := HA.out.at hlt
        obtain ⟨b', o', rfl, hy⟩ := HB.out.at hltM
        obtain ⟨x0, x1, x2, x3⟩ := hx wr hX
        obtain ⟨y0, y1, y2, y3⟩ := hy wr hX
        have hst : evAt L k = evAt M k → L.take (k + 1) = M.take (k + 1) := fun e => by
          rw [List.take_succ_eq_append_getElem hlt, List.take_succ_eq_append_getElem hltM, ht.out, ← evAt_in hlt, ← evAt_in hltM, e]
        have hno : evAt L k ≠ evAt M k → L ≠ M := fun e h => e (by rw [h])
        have HST := Lib.hid hst
        have HNO := Lib.hid hno
        clear hx hy hst hno
        generalize hp : evAt L k = p at *
        generalize hq : evAt M k = q at *
        clear hp hq
        obtain ⟨p0, p1, p2, p3⟩ := p
        obtain ⟨q0, q1, q2, q3⟩ := q
        dsimp only at x0 x1 x2 x3 y0 y1 y2 y3
        cases e0 : (p0 == q0) with
        | false =>
          have hn := HNO.out (fun h => by injection h with h; simp [h] at e0)
          have HN := Lib.hid (decide_eq_false hn)
          clear hn
          go_wp2_with (fail)
          go_quiet (fail)
          go_wp2_with (fail)
          go_ret
          exact ⟨by rw [HN.out]; rfl, hX.drewN _⟩
        | true =>
          cases e1 : (p1 == q1) with
          | false =>
            have hn := HNO.out (fun h => by injection h with _ h; simp [h] at e1)
            have HN := Lib.hid (decide_eq_false hn)
            clear hn
            go_wp2_with (fail)
            go_quiet (fail)
            go_wp2_with (fail)
            go_ret
            exact ⟨by rw [HN.out]; rfl, hX.drewN _⟩
          | true =>
            cases e2 : (p2 == q2) with
            | false =>
              have hn := HNO.out (fun h => by injection h with _ _ h; simp [h] at e2)
              have HN := Lib.hid (decide_eq_false hn)
              clear hn
              go_wp2_with (fail)
              go_quiet (fail)
              go_wp2_with (fail)
              go_ret
              exact ⟨by rw [HN.out]; rfl, hX.drewN _⟩
            | true =>
              cases e3 : (p3 == q3) with
              | false =>
                have hn := HNO.out (fun h => by injection h with _ _ _ h; simp [h] at e3)
                have HN := Lib.hid (decide_eq_false hn)
                clear hn
                go_wp2_with (fail)
                go_quiet (fail)
                go_wp2_with (fail)
                go_ret
                exact ⟨by rw [HN.out]; rfl, hX.drewN _⟩
              | true =>
                have HN := Lib.hid (HST.out (by rw [eq_of_beq e0, eq_of_beq e1, eq_of_beq e2, eq_of_beq e3]))
                go_wp2_with (fail)
                go_quiet (fail)
                go_wp2_with (fail)
                exact ⟨⟨k + 1, hlt, rfl, HN, hX.drewN _⟩, by simp [intOf]; omega⟩
      · have hke : k = L.length := by omega
        subst hke
        have he : L = M := by
          have h := ht.out
          rw [List.take_length] at h
          rw [h, HL.out, List.take_length]
        have HE := Lib.hid (decide_eq_true he)
        clear he
        go_wp2_with (fail)
        go_ret
        exact ⟨by rw [HE.out]; rfl, hX⟩
  · have hdl : ((L.length : Int) == (M.length : Int)) = false := by simp; omega
    have hE : decide (L = M) = false := decide_eq_false (fun e => hl (by rw [e]))
    have HE := Lib.hid hE
    clear hE hl ha hb
    go_enter Tryd.func18, Tryd.ntmps18
    go_wp2_with (fail)
    go_ret
    exact ⟨by rw [HE.out]; rfl, Ext.refl w⟩
theorem evTask_any (e0 e1 e2 e3 : Int) (w : World) : Calls Tryd.prog 27 #[.agg #[.int .i64 e0, .int .i64 e1, .int .i64 e2, .int .i64 e3]] w fun r w' => r = .returned (.bool (⟨e0, e1, e2, e3⟩ : Ev).isTask) ∧ Ext w w' := by
  have hE : (⟨e0, e1, e2, e3⟩ : Ev).isTask = (decide (0 ≤ e2) && decide (e2 < 8)) := rfl
  rw [hE]
  cases d : decide (0 ≤ e2) with
  | false =>
    go_enter Tryd.func27, Tryd.ntmps27
    go_wp2_with (fail)
    go_ret
    exact ⟨rfl, (Ext.refl w).alloc _⟩
  | true =>
    go_enter Tryd.func27, Tryd.ntmps27
    go_wp2_with (fail)
    go_ret
    exact ⟨rfl, (Ext.refl w).alloc _⟩
theorem last_any (va : Value) (L : List Ev) (k0 : Nat) (w : World) (hk0 : k0 < L.length) (ha : Evs w va L) :
    Calls Tryd.prog 25 #[va, .int .i64 k0] w fun e w' => e = .returned (.int .i64 (lastL (L.take k0) (evAt L k0).task)) ∧ Ext w w' := by
  obtain ⟨A, c, rfl, hc1, hc2⟩ := ha.form
  unfold maxLen at hc2
  have HA := Lib.hid ha
  have hw0 : IntKind.i64.wrap ((k0 : Int) - 1) = (k0 : Int) - 1 := by rw [IntKind.wrap_i64]; omega
  have hw1 : wrap64 ((k0 : Int) - 1) = (k0 : Int) - 1 := by unfold wrap64; omega
  obtain ⟨m, hm⟩ : ∃ m, lastL (L.take k0) (evAt L k0).task = m := ⟨_, rfl⟩
  rw [hm]
  have HM := Lib.hid hm
  clear ha hm
  go_enter Tryd.func25, Tryd.ntmps25
  go_wp2_with (fail)
  go_loopw [5] (fun i wr => ∃ k : Nat, k ≤ k0 ∧ i = .int .i64 ((k : Int) - 1) ∧ Hid (lastL (L.take k) (evAt L k0).task = m) ∧ Ext w wr) (fun i _ => (intOf i + 1).toNat)
  case atStart => exact ⟨k0, Nat.le_refl _, rfl, Lib.hid HM.out, Ext.refl w⟩
  case round =>
    obtain ⟨k, hk, rfl, ht, hX⟩ := hrel
    clear hw0 hw1
    rcases Nat.eq_zero_or_pos k with rfl | hpos
    · obtain rfl : (0 : Int) = m := ht.out
      go_wp2_with (fail)
      go_ret
      exact ⟨rfl, hX⟩
    · obtain ⟨j, rfl⟩ : ∃ j, k = j + 1 := ⟨k - 1, by omega⟩
      rw [show (((j + 1 : Nat) : Int) - 1) = (j : Int) by omega]
      have hjl : j < L.length := by omega
      obtain ⟨b, o, rfl, hx⟩ := HA.out.at hjl
      obtain ⟨b', o', e', hy⟩ := HA.out.at hk0
      obtain ⟨rfl, rfl⟩ : b = b' ∧ o = o' := by simpa using e'
      obtain ⟨x0, x1, x2, x3⟩ := hx wr hX
      obtain ⟨y0, y1, y2, y3⟩ := hy wr hX
      have hw0 : IntKind.i64.wrap ((j : Int) - 1) = (j : Int) - 1 := by rw [IntKind.wrap_i64]; omega
      have hw1 : wrap64 ((j : Int) - 1) = (j : Int) - 1 := by unfold wrap64; omega
      have hs := last_snoc (L.take j) (evAt L j) (evAt L k0).task
      rw [evAt_in hjl, ← List.take_succ_eq_append_getElem hjl, ← evAt_in hjl, ht.out] at hs
      have HS := Lib.hid hs
      clear hx hy e' y0 y1 y3 x0 x3 hs ht HM
      generalize hp : evAt L j = p at *
      generalize (evAt L k0).task = t at *
      clear hp
      obtain ⟨p0, p1, p2, p3⟩ := p
      dsimp only at x1 x2 HS
      cases d1 : (p2 == t) with
      | false =>
        have hne : p2 ≠ t := by simpa using d1
        have HN := Lib.hid (show lastL (L.take j) t = m by rw [HS.out, if_neg (fun h => hne h.1)])
        clear hne
        go_wp2_with (fail)
        go_quiet (fail)
        go_wp2_with (fail)
        exact ⟨⟨j, by omega, rfl, HN, hX.drewN _⟩, by first | (simp [intOf]; done) | (simp [intOf]; omega)⟩
      | true =>
        have he : p2 = t := by simpa using d1
        cases d2 : (p1 != 3) with
        | false =>
          have h3 : p1 = 3 := by simpa using d2
          have HN := Lib.hid (show lastL (L.take j) t = m by rw [HS.out, if_neg (fun h => h.2.2 h3)])
          clear he h3
          go_wp2_with (fail)
          go_quiet (fail)
          go_wp2_with (fail)
          exact ⟨⟨j, by omega, rfl, HN, hX.drewN _⟩, by first | (simp [intOf]; done) | (simp [intOf]; omega)⟩
        | true =>
          have h3 : p1 ≠ 3 := by simpa using d2
          cases d3 : (p1 != 2) with
          | false =>
            have h2 : p1 = 2 := by simpa using d3
            have HN := Lib.hid (show lastL (L.take j) t = m by rw [HS.out, if_neg (fun h => h.2.1 h2)])
            clear he h3 h2
            go_wp2_with (fail)
            go_quiet (fail)
            go_wp2_with (fail)
            exact ⟨⟨j, by omega, rfl, HN, hX.drewN _⟩, by first | (simp [intOf]; done) | (simp [intOf]; omega)⟩
          | true =>
            have h2 : p1 ≠ 2 := by simpa using d3
            have HN := Lib.hid (show m = p1 by rw [HS.out, if_pos ⟨he, h2, h3⟩])
            clear he h3 h2
            go_wp2_with (fail)
            go_quiet (fail)
            go_wp2_with (fail)
            go_ret
            exact ⟨by rw [HN.out]; rfl, hX.drewN _⟩
end Go.Proofs.YtniejidekflmiaaDoor
/- Rows of events: the oldest job; is it fair? -/
namespace Go.Proofs.YtniejidekflmiaaDoor
open Go.RowKit
attribute [local go_sem] setCell_twice ByteArray.toList_eq str_list Ext.alloc Ext.drew
set_option linter.unusedSimpArgs false
set_option linter.unusedVariables false
set_option maxRecDepth 100000
set_option maxHeartbeats 1600000
attribute [local irreducible] Calls

/-- an array of eight numbers -/
structure Arr8 (w : World) (t : TypeId) (g : Nat) (xs : List Int) : Prop where
  box : Blk w g (xs.map (Value.int .i64)).toArray t
  len : xs.length = 8
section
variable {w w' : World} {t : TypeId} {g : Nat} {xs : List Int}
theorem Arr8.ext (h : Arr8 w t g xs) (hx : Ext w w') : Arr8 w' t g xs := ⟨h.box.ext hx, h.len⟩
theorem Arr8.at (h : Arr8 w t g xs) {i : Nat} (hi : i < 8) : w.cell? ⟨g, i, none⟩ = some (.int .i64 (xs.getD i 0)) := by
  have hi2 : i < xs.length := by rw [h.len]; exact hi
  rw [h.box.cell, List.getElem?_toArray, List.getElem?_map, List.getElem?_eq_getElem hi2, getD_at hi2]
  rfl
theorem Arr8.set (h : Arr8 w t g xs) (i : Nat) (x : Int) : Arr8 (w.setCell ⟨g, i, none⟩ (.int .i64 x)) t g (xs.set i x) := by
  have := h.box.set i (.int .i64 x)
  refine ⟨?_, by rw [List.length_set]; exact h.len⟩
  rw [List.map_set]
  simpa using this
theorem list8_ext {xs ys : List Int} (h1 : xs.length = 8) (h2 : ys.length = 8) (h : ∀ i, i < 8 → xs.getD i 0 = ys.getD i 0) : xs = ys := by
  refine List.ext_getElem (by omega) fun i a b => ?_
  have := h i (by omega)
  rwa [getD_at a, getD_at b] at this
end
/-- when the jobs that are pending were let in, by the first j events -/
def arrO (L : List Ev) (j : Nat) : List Int := (List.range 8).map fun (i : Nat) => oldV (sinceL (L.take j) i)
theorem arrO_len (L : List Ev) (j : Nat) : (arrO L j).length = 8 := by simp [arrO]
theorem arrO_at (L : List Ev) (j : Nat) {i : Nat} (hi : i < 8) : (arrO L j).getD i 0 = oldV (sinceL (L.take j) i) := by
  rw [getD_at (by rw [arrO_len]; exact hi)]
  simp [arrO]
theorem arrO_zero (L : List Ev) : arrO L 0 = List.replicate 8 (-1) := rfl
theorem arrO_step {L : List Ev} {j : Nat} (hj : j < L.length) : arrO L (j + 1) = if (evAt L j).isTask = false then arrO L j else if (evAt L j).kind = 1 then (arrO L j).set (evAt L j).task.toNat (evAt L j).tick else if (evAt L j).kind = 8 ∨ (evAt L j).kind = 9 then (arrO L j).set (evAt L j).task.toNat (-1) else arrO L j := by
  have hs : ∀ i : Int, sinceL (L.take (j + 1)) i = if (evAt L j).task = i then (if (evAt L j).kind = 1 then some (evAt L j).tick else if (evAt L j).kind = 8 ∨ (evAt L j).kind = 9 then none else sinceL (L.take j) i) else sinceL (L.take j) i := fun i => by
    rw [List.take_succ_eq_append_getElem hj, since_snoc, ← evAt_in hj]
  generalize evAt L j = e at hs
  refine list8_ext (arrO_len _ _) ?_ fun i hi => ?_
  · split
    · exact arrO_len _ _
    · split
      · rw [List.length_set]; exact arrO_len _ _
      · split
        · rw [List.length_set]; exact arrO_len _ _
        · exact arrO_len _ _
  · rw [arrO_at L _ hi, hs]
    cases ht : e.isTask with
    | false =>
      rw [if_pos rfl, arrO_at L _ hi, if_neg]
      intro h
      unfold Ev.isTask at ht
      rw [decide_eq_true (by omega), decide_eq_true (by omega)] at ht
      cases ht
    | true =>
      rw [if_neg (show ¬ (true = false) by decide)]
      unfold Ev.isTask at ht
      simp only [Bool.and_eq_true, decide_eq_true_eq] at ht
      by_cases e1 : e.task = i
      · have e2 : e.task.toNat = i := by omega
        rw [if_pos e1, e2]
        by_cases k1 : e.kind = 1
        · rw [if_pos k1, if_pos k1, getD_set (by rw [arrO_len]; exact hi), if_pos rfl]
          rfl
        · rw [if_neg k1, if_neg k1]
          by_cases k2 : e.kind = 8 ∨ e.kind = 9
          · rw [if_pos k2, if_pos k2, getD_set (by rw [arrO_len]; exact hi), if_pos rfl]
            rfl
          · rw [if_neg k2, if_neg k2, arrO_at L _ hi]
      · rw [if_neg e1]
        have e2 : e.task.toNat ≠ i := by omega
        have hset : ∀ x : Int, ((arrO L j).set e.task.toNat x).getD i 0 = oldV (sinceL (L.take j) i) := fun x => by
          rw [getD_set (by rw [arrO_len]; omega), if_neg e2, arrO_at L _ hi]
        split
        · rw [hset]
        · split
          · rw [hset]
          · rw [arrO_at L _ hi]
theorem oldE_step {L : List Ev} (h0 : ∀ e ∈ L, 0 ≤ e.tick) (k : Nat) : oldV (oldE L (k + 1)) = if 0 ≤ oldV (sinceL L k) ∧ (oldV (oldE L k) < 0 ∨ oldV (sinceL L k) < oldV (oldE L k)) then oldV (sinceL L k) else oldV (oldE L k) := by
  have hs : oldE L (k + 1) = match sinceL L k with
    | none => oldE L k
    | some b => match oldE L k with
      | none => some b
      | some a => if b < a then some b else some a := by
    unfold oldE
    rw [List.range_succ, List.map_append]
    exact minO_snoc _ _
  have hn := since_nn h0 (k : Int)
  have ho := fun a => old_nn (i := k) (a := a) h0
  cases h1 : sinceL L k with
  | none =>
    rw [h1] at hs
    rw [hs]
    rw [if_neg]
    intro h
    have := h.1
    simp only [oldV] at this
    omega
  | some b =>
    rw [h1] at hs
    have hb := hn b h1
    cases h2 : oldE L k with
    | none =>
      rw [h2] at hs
      rw [hs]
      show b = if 0 ≤ b ∧ ((-1 : Int) < 0 ∨ b < -1) then b else -1
      rw [if_pos ⟨hb, .inl (by omega)⟩]
    | some a =>
      rw [h2] at hs
      have ha := ho a h2
      rw [hs]
      show oldV (if b < a then some b else some a) = if 0 ≤ b ∧ (a < 0 ∨ b < a) then b else a
      by_cases hlt : b < a
      · rw [if_pos hlt, if_pos ⟨hb, .inr hlt⟩]; rfl
      · rw [if_neg hlt, if_neg (fun h => by omega)]; rfl
theorem oldest_any (va : Value) (L : List Ev) (k0 m : Nat) (w : World) (hk0 : k0 ≤ L.length) (hm : m ≤ 8) (h0 : ∀ e ∈ L, 0 ≤ e.tick) (ha : Evs w va L) :
    Calls Tryd.prog 26 #[va, .int .i64 k0, .int .i64 m] w fun e w' => e = .returned (.int .i64 (oldV (oldE (L.take k0) m))) ∧ Ext w w' := by
  obtain ⟨A, c, rfl, hc1, hc2⟩ := ha.form
  unfold maxLen at hc2
  have HA := Lib.hid ha
  have H0 := Lib.hid (fun e (he : e ∈ L.take k0) => h0 e (List.mem_of_mem_take he))
  clear ha h0
  go_enter Tryd.func26, Tryd.ntmps26
  go_wp2_with (fail)
  have hZ : Arr8 (w.alloc (.cells #[.int .i64 0, .int .i64 0, .int .i64 0, .int .i64 0, .int .i64 0, .int .i64 0, .int .i64 0, .int .i64 0] 87)) 87 w.heap.size (List.replicate 8 0) := ⟨Blk.new _ _ _, rfl⟩
  have hX := (Ext.refl w).alloc (.cells #[.int .i64 0, .int .i64 0, .int .i64 0, .int .i64 0, .int .i64 0, .int .i64 0, .int .i64 0, .int .i64 0] 87)
  go_loopw [8] (fun i wr => ∃ (k : Nat) (xs : List Int), k ≤ 8 ∧ i = .int .i64 k ∧ Arr8 wr 87 w.heap.size xs ∧ Hid (∀ j, j < k → xs.getD j 0 = -1) ∧ Ext w wr) (fun i _ => 8 - (intOf i).toNat)
  case atStart => exact ⟨0, _, by omega, rfl, hZ, Lib.hid (fun j hj => by omega), hX⟩
  case round =>
    obtain ⟨k, xs, hk, rfl, hA, hall, hX2⟩ := hrel
    clear hZ hX
    by_cases hlt : k < 8
    · have hck := hA.at hlt
      have hfk := hA.box.free k
      go_wp2_with (fail)
      exact ⟨⟨k + 1, _, hlt, rfl, hA.set k (-1), Lib.hid (fun j hj => by
        rw [getD_set (by rw [hA.len]; exact hlt)]
        split
        · rfl
        · exact hall.out j (by omega)), hX2.set (Nat.le_refl _) _⟩, by simp [intOf]; omega⟩
    · have hke : k = 8 := by omega
      have hxs : xs = arrO L 0 := by
        rw [arrO_zero]
        refine list8_ext hA.len rfl fun i hi => ?_
        have e : (List.replicate 8 (-1 : Int)).getD i 0 = -1 := by
          simp only [List.getD, List.getElem?_replicate]
          rw [if_pos hi]
          rfl
        rw [hall.out i (by omega), e]
      subst hxs
      have HA0 := Lib.hid hA
      have HX2 := Lib.hid hX2
      clear hA hX2 hall hke
      go_wp2_with (fail)
      go_loopw [9] (fun i wr => ∃ (k : Nat), k ≤ k0 ∧ i = .int .i64 k ∧ Arr8 wr 87 w.heap.size (arrO L k) ∧ Ext w wr) (fun i _ => k0 - (intOf i).toNat)
      case atStart => exact ⟨0, by omega, rfl, HA0.out, HX2.out⟩
      case round =>
        obtain ⟨k, hk, rfl, hA, hX⟩ := hrel
        clear HA0 HX2
        by_cases hlt : k < k0
        · have hkl : k < L.length := by omega
          obtain ⟨b, o, rfl, hx⟩ := HA.out.at hkl
          have hst := arrO_step hkl
          generalize hp : evAt L k = p at *
          obtain ⟨p0, p1, p2, p3⟩ := p
          dsimp only at hx hst
          have x0 := fun w' (h : Ext w w') => (hx w' h).1
          have x1 := fun w' (h : Ext w w') => (hx w' h).2.1
          have x2 := fun w' (h : Ext w w') => (hx w' h).2.2.1
          have x3 := fun w' (h : Ext w w') => (hx w' h).2.2.2
          have y0 := x0 wr hX
          have y1 := x1 wr hX
          have y2 := x2 wr hX
          have y3 := x3 wr hX
          have HS := Lib.hid hst
          have HA1 := Lib.hid hA
          clear hx hp hst hA
          go_wp2_with (fail)
          refine (evTask_any p0 p1 p2 p3 wr).mono ?_
          rintro e w2 ⟨rfl, hX2⟩
          have hX3 := hX.trans hX2
          have z1 := x1 w2 hX3
          have HA2 := Lib.hid (HA1.out.ext hX2)
          clear y0 y1 y2 y3 HA1
          cases ht : (⟨p0, p1, p2, p3⟩ : Ev).isTask with
          | false =>
            have HE := Lib.hid (show arrO L (k + 1) = arrO L k by rw [HS.out, if_pos ht])
            go_wp2_with (fail)
            exact ⟨⟨k + 1, hlt, rfl, by rw [HE.out]; exact HA2.out, hX3⟩, by simp [intOf]; omega⟩
          | true =>
            have hts := ht
            unfold Ev.isTask at hts
            simp only [Bool.and_eq_true, decide_eq_true_eq] at hts
            obtain ⟨n, hn⟩ := Int.eq_ofNat_of_zero_le hts.1
            subst hn
            have hn8 : n < 8 := by omega
            by_cases k1 : p1 = 1
            · subst k1
              have HE := Lib.hid (show arrO L (k + 1) = (arrO L k).set n p0 by rw [HS.out, if_neg (by simp [ht]), if_pos rfl]; rfl)
              have hn8i : (n : Int) < 8 := by omega
              clear ht hts
              go_upto_region 12 with (fail)
              refine wp_region_mixZ (T := [11]) (z := 11) (S := Ext w) (W := w2) (Ext.mono w) (by kernel_rfl) (by kernel_rfl) (by kernel_rfl) (Ext.refl w2).drew hX3 (fun _ _ h => h) (fun K hK => ?_)
              (repeat (first | (refine hX_skip ?_ ?_; (· rfl)) | (apply hX_and; (· rfl); (· rfl); (· rfl); (· rfl); (· rfl); simp only [Act.put, List.setIfInBounds_toArray, List.set_cons_zero, List.set_cons_succ]) | (apply hX_or; (· rfl); (· rfl); (· rfl); (· rfl); (· rfl); simp only [Act.put, List.setIfInBounds_toArray, List.set_cons_zero, List.set_cons_succ]) | (apply hX_off; (· rfl); (· rfl); (· rfl); simp only [Act.put, List.setIfInBounds_toArray, List.set_cons_zero, List.set_cons_succ]) | (apply hX_val; (· rfl); (· intro w hS; go_simp; with_reducible rfl); (· rfl); simp only [Act.put, List.setIfInBounds_toArray, List.set_cons_zero, List.set_cons_succ]) | (apply hX_call; (· rfl); (· rfl); (· intro w hS; go_simp; exact ⟨rfl, rfl⟩); (· intro w hS; fail); simp only [Act.put, List.setIfInBounds_toArray, List.set_cons_zero, List.set_cons_succ]) | (apply hX_if; (· rfl); (· rfl); (· rfl); (· intro hif w hS; go_simp; with_reducible rfl); simp only [Act.put, List.setIfInBounds_toArray, List.set_cons_zero, List.set_cons_succ]) | (apply hX_ifcall; (· rfl); (· rfl); (· rfl); (· intro hif w hS; go_simp; exact ⟨rfl, rfl⟩); (· intro hif w hS; fail); simp only [Act.put, List.setIfInBounds_toArray, List.set_cons_zero, List.set_cons_succ]))); refine hX_nil ?_
              refine hK _ ?_
              clear hK K
              refine wpZ_last (by kernel_rfl) rfl (by simp [Region.wanted, yielded]) ?_
              intro w4 hx4 K hK
              have hA4 := HA2.out.ext hx4
              have hc4 := hA4.at hn8
              have hf4 := hA4.box.free n
              go_simp
              refine hK _ _ ?_
              clear hK K hc4 hf4
              refine wpZ_done (by kernel_rfl) (fun W hX5 => ?_) _
              have hA5 := Lib.hid ((hA4.set n p0).ext hX5)
              have hX6 := ((hX3.trans hx4).set (Nat.le_refl _) (i := n) (.int .i64 p0)).trans hX5
              clear hA4 hX5 hx4
              go_wp2_with (fail)
              exact ⟨⟨k + 1, hlt, rfl, by rw [HE.out]; exact hA5.out, hX6⟩, by simp [intOf]; omega⟩
            · have d1 : (p1 == 1) = false := by simpa using k1
              by_cases k2 : p1 = 8 ∨ p1 = 9
              · have HE := Lib.hid (show arrO L (k + 1) = (arrO L k).set n (-1) by rw [HS.out, if_neg (by simp [ht]), if_neg k1, if_pos k2]; rfl)
                have z2 := x2 w2 hX3
                have hc4 := HA2.out.at hn8
                have hf4 := HA2.out.box.free n
                clear ht hts
                rcases k2 with rfl | rfl
                · go_wp2_with (fail)
                  exact ⟨⟨k + 1, hlt, rfl, by rw [HE.out]; exact HA2.out.set n (-1), hX3.set (Nat.le_refl _) _⟩, by simp [intOf]; omega⟩
                · go_wp2_with (fail)
                  exact ⟨⟨k + 1, hlt, rfl, by rw [HE.out]; exact HA2.out.set n (-1), hX3.set (Nat.le_refl _) _⟩, by simp [intOf]; omega⟩
              · have d8 : (p1 == 8) = false := by rw [beq_eq_false_iff_ne]; omega
                have d9 : (p1 == 9) = false := by rw [beq_eq_false_iff_ne]; omega
                have HE := Lib.hid (show arrO L (k + 1) = arrO L k by rw [HS.out, if_neg (by simp [ht]), if_neg k1, if_neg k2])
                clear ht hts
                go_wp2_with (fail)
                exact ⟨⟨k + 1, hlt, rfl, by rw [HE.out]; exact HA2.out, hX3⟩, by simp [intOf]; omega⟩
        · have hke : k = k0 := by omega
          subst hke
          have HAk := Lib.hid hA
          have HXk := Lib.hid hX
          clear hA hX
          go_wp2_with (fail)
          go_loopw [10, 11] (fun a i wr => ∃ (j : Nat), j ≤ m ∧ i = .int .i64 j ∧ a = .int .i64 (oldV (oldE (L.take k) j)) ∧ Arr8 wr 87 w.heap.size (arrO L k) ∧ Ext w wr) (fun _ i _ => m - (intOf i).toNat)
          case atStart => exact ⟨0, by omega, rfl, rfl, HAk.out, HXk.out⟩
          case round =>
            obtain ⟨j, hj, rfl, rfl, hA, hX⟩ := hrel
            clear HAk HXk
            by_cases hltj : j < m
            · have hcj := hA.at (show j < 8 by omega)
              rw [arrO_at L k (by omega)] at hcj
              have hst := oldE_step H0.out j
              have HS := Lib.hid hst
              have HA3 := Lib.hid hA
              clear hst hA
              generalize oldV (sinceL (L.take k) j) = x at *
              generalize oldV (oldE (L.take k) j) = y at *
              cases dx : decide (0 ≤ x) with
              | false =>
                have HE := Lib.hid (show oldV (oldE (L.take k) (j + 1)) = y by rw [HS.out, if_neg (fun h => of_decide_eq_false dx h.1)])
                go_wp2_with (fail)
                exact ⟨⟨j + 1, hltj, rfl, by rw [HE.out], HA3.out, hX⟩, by simp [intOf]; omega⟩
              | true =>
                cases dy : decide (y < 0) with
                | true =>
                  have HE := Lib.hid (show oldV (oldE (L.take k) (j + 1)) = x by rw [HS.out, if_pos ⟨of_decide_eq_true dx, .inl (of_decide_eq_true dy)⟩])
                  go_wp2_with (fail)
                  exact ⟨⟨j + 1, hltj, rfl, by rw [HE.out], HA3.out, hX⟩, by simp [intOf]; omega⟩
                | false =>
                  cases dz : decide (x < y) with
                  | true =>
                    have HE := Lib.hid (show oldV (oldE (L.take k) (j + 1)) = x by rw [HS.out, if_pos ⟨of_decide_eq_true dx, .inr (of_decide_eq_true dz)⟩])
                    go_wp2_with (fail)
                    exact ⟨⟨j + 1, hltj, rfl, by rw [HE.out], HA3.out, hX⟩, by simp [intOf]; omega⟩
                  | false =>
                    have HE := Lib.hid (show oldV (oldE (L.take k) (j + 1)) = y by rw [HS.out, if_neg (fun h => h.2.elim (of_decide_eq_false dy) (of_decide_eq_false dz))])
                    go_wp2_with (fail)
                    exact ⟨⟨j + 1, hltj, rfl, by rw [HE.out], HA3.out, hX⟩, by simp [intOf]; omega⟩
            · have hje : j = m := by omega
              subst hje
              go_wp2_with (fail)
              go_ret
              exact ⟨rfl, hX⟩
end Go.Proofs.YtniejidekflmiaaDoor
/- Is a row of events fair? -/
namespace Go.Proofs.YtniejidekflmiaaDoor
open Go.RowKit
attribute [local go_sem] setCell_twice ByteArray.toList_eq str_list Ext.alloc Ext.drew
set_option linter.unusedSimpArgs false
set_option linter.unusedVariables false
set_option maxRecDepth 100000
set_option maxHeartbeats 1600000
attribute [local irreducible] Calls

theorem takeWhile_take {α : Type} {p : α → Bool} : ∀ (l : List α) (m : Nat), m ≤ l.length → (∀ x ∈ l.take m, p x = true) → (∀ h : m < l.length, p l[m] = false) → l.takeWhile p = l.take m
  | [], m, _, _, _ => by simp
  | x :: l, 0, _, _, h => by
    have := h (by simp)
    simp only [List.getElem_cons_zero] at this
    rw [List.takeWhile_cons_of_neg (by simp [this]), List.take_zero]
  | x :: l, m + 1, hm, h1, h2 => by
    rw [List.take_succ_cons, List.takeWhile_cons_of_pos (h1 x (by simp)), takeWhile_take l m (by simpa using hm) (fun y hy => h1 y (by simp [hy])) (fun h => by have := h2 (by simpa using h); simpa using this)]
theorem fair_none {s : TSet} {L : List Ev} {k : Nat} (hk : k < L.length) (h : fairAt s L k = false) : fairB s L = false := by
  unfold fairB
  rw [List.all_eq_false]
  exact ⟨k, List.mem_range.2 hk, by rw [h]; simp⟩
theorem fair_step {s : TSet} {L : List Ev} {k : Nat} (h1 : (List.range k).all (fairAt s L) = true) (h : fairAt s L k = true) : (List.range (k + 1)).all (fairAt s L) = true := by
  rw [List.range_succ, List.all_append, h1]
  simp [h]
theorem since_le {L : List Ev} {B : Int} (h : ∀ e ∈ L, e.tick ≤ B) : ∀ (i a : Int), sinceL L i = some a → a ≤ B := by
  have : ∀ (n : Nat), n ≤ L.length → ∀ (i a : Int), sinceL (L.take n) i = some a → a ≤ B := by
    intro n
    induction n with
    | zero => intro _ i a h; simp [sinceL] at h
    | succ n ih =>
      intro hn i a hs
      rw [List.take_succ_eq_append_getElem (by omega), since_snoc] at hs
      split at hs
      · split at hs
        · cases hs; exact h _ (List.getElem_mem _)
        · split at hs
          · cases hs
          · exact ih (by omega) i a hs
      · exact ih (by omega) i a hs
  intro i a hs
  have := this L.length (Nat.le_refl _)
  rw [List.take_length] at this
  exact this i a hs
theorem old_le {L : List Ev} {B : Int} (h : ∀ e ∈ L, e.tick ≤ B) {i : Nat} {a : Int} (ho : oldE L i = some a) : a ≤ B := by
  unfold oldE at ho
  obtain ⟨h1, _⟩ := minO_some.1 ho
  obtain ⟨j, _, hj⟩ := List.mem_map.1 h1
  exact since_le h j a hj
theorem fair_any (s : TSet) (v va : Value) (L : List Ev) (w : World) (hv : Tasks w v s.tasks) (hg : s.good) (hb : allB s = true) (hk : KH2 s) (h0 : ∀ e ∈ L, 0 ≤ e.tick ∧ e.tick ≤ 1099511627776) (ha : Evs w va L) :
    Calls Tryd.prog 15 #[setV s v, va] w fun e w' => e = .returned (.bool (fairB s L)) ∧ Ext w w' := by
  obtain ⟨A, c, rfl, hcc, hcm, hxx⟩ := id hv
  obtain ⟨Al, cl, rfl, hcl, hcm2⟩ := ha.form
  clear hxx
  unfold maxLen at hcm hcm2
  have hX1 := (Ext.refl w).alloc (.cells #[.int .i64 s.reload, .slice A s.tasks.length c] 24)
  have hB1 := Blk.new w #[.int .i64 s.reload, .slice A s.tasks.length c] 24
  have hAll := fun w' (hx : Ext w w') => allR_any s (.slice A s.tasks.length c) w' (hv.ext hx) hg
  have hOld := fun w' (hx : Ext w w') (k0 m : Nat) (h1 : k0 ≤ L.length) (h2 : m ≤ 8) => oldest_any (.slice Al L.length cl) L k0 m w' h1 h2 (fun e he => (h0 e he).1) (ha.ext hx)
  have hLast := fun w' (hx : Ext w w') (k0 : Nat) (h1 : k0 < L.length) => last_any (.slice Al L.length cl) L k0 w' h1 (ha.ext hx)
  rw [hb] at hAll
  unfold setV at hAll ⊢
  have HALL := Lib.hid hAll
  have HOLD := Lib.hid hOld
  have HLAST := Lib.hid hLast
  have HV := Lib.hid hv
  have HA := Lib.hid ha
  have H0 := Lib.hid h0
  obtain ⟨b, hbm⟩ : ∃ b, fairB s L = b := ⟨_, rfl⟩
  rw [hbm]
  have HM := Lib.hid hbm
  clear hAll hOld hLast hv ha h0 hbm
  go_enter Tryd.func15, Tryd.ntmps15
  go_upto_region 1 with (fail)
  generalize hW : w.alloc _ = W1 at hX1 hB1 ⊢
  clear hW
  have hcB := hB1.under
  have hc1 := hB1.cell
  go_wp2_with (fail)
  refine (HALL.out W1 hX1).mono ?_
  rintro e W2 ⟨rfl, hb2⟩
  have hX12 : Ext W1 W2 := ⟨hb2⟩
  clear hc1
  go_wp2_with (fail)
  go_loopw [5] (fun i wr => ∃ (k : Nat), k ≤ L.length ∧ i = .int .i64 k ∧ Hid ((List.range k).all (fairAt s L) = true) ∧ Ext W1 wr) (fun i _ => L.length - (intOf i).toNat)
  case atStart => exact ⟨0, by omega, rfl, Lib.hid rfl, hX12⟩
  case round =>
    obtain ⟨k, hk2, rfl, hall, hX⟩ := hrel
    clear hX12 hb2
    by_cases hlt : k < L.length
    · obtain ⟨bl, ol, rfl, hx⟩ := HA.out.at hlt
      have hXw := hX1.trans hX
      have HF := Lib.hid (fun h : fairAt s L k = false => (fair_none hlt h).symm.trans HM.out)
      have HT := Lib.hid (fun h : fairAt s L k = true => fair_step hall.out h)
      have hdef : fairAt s L k = if (evAt L k).kind ≠ 5 ∨ (evAt L k).task < 0 ∨ (s.tasks.length : Int) ≤ (evAt L k).task then true
        else if (s.tk (evAt L k).task.toNat).mode = 0 then decide (lastL (L.take k) (evAt L k).task = 7)
        else if (s.tk (evAt L k).task.toNat).mode = 1 then decide (0 ≤ oldV (oldE (L.take k) (evAt L k).task.toNat)) && decide (oldV (oldE (L.take k) (evAt L k).task.toNat) + (s.tk (evAt L k).task.toNat).q = (evAt L k).tick)
        else (sameT L k).any (thrB (s.tk (evAt L k).task.toNat).theta) := rfl
      have hsame : sameT L k = (L.drop (k + 1)).takeWhile fun x => decide (x.tick = (evAt L k).tick) := rfl
      have HLK := Lib.hid (fun w' (hx : Ext w w') => HLAST.out w' hx k hlt)
      have htk := H0.out (evAt L k) (by rw [evAt_in hlt]; exact List.getElem_mem hlt)
      generalize hp : evAt L k = p at *
      obtain ⟨p0, p1, p2, p3⟩ := p
      dsimp only at hx hdef hsame HLK htk
      obtain ⟨y0, y1, y2, y3⟩ := hx wr hXw
      have HD := Lib.hid hdef
      have HSM := Lib.hid hsame
      have hcr := hcB wr hX
      clear hx hp hdef hsame
      cases d1 : (p1 != 5) with
      | true =>
        have HN := Lib.hid (HT.out (by rw [HD.out, if_pos (.inl (by simpa using d1))]))
        go_wp2_with (fail)
        exact ⟨⟨k + 1, hlt, rfl, HN, hX.alloc _⟩, by simp [intOf]; omega⟩
      | false =>
        cases d2 : decide (p2 < 0) with
        | true =>
          have HN := Lib.hid (HT.out (by rw [HD.out, if_pos (.inr (.inl (of_decide_eq_true d2)))]))
          go_wp2_with (fail)
          exact ⟨⟨k + 1, hlt, rfl, HN, hX.alloc _⟩, by simp [intOf]; omega⟩
        | false =>
          cases d3 : decide ((s.tasks.length : Int) ≤ p2) with
          | true =>
            have HN := Lib.hid (HT.out (by rw [HD.out, if_pos (.inr (.inr (of_decide_eq_true d3)))]))
            go_wp2_with (fail)
            exact ⟨⟨k + 1, hlt, rfl, HN, hX.alloc _⟩, by simp [intOf]; omega⟩
          | false =>
            obtain ⟨m, rfl⟩ := Int.eq_ofNat_of_zero_le (Int.not_lt.1 (of_decide_eq_false d2))
            have hm : m < s.tasks.length := by have := of_decide_eq_false d3; omega
            have hD2 := HD.out
            rw [if_neg (by
              rintro (h | h | h)
              · exact h (by simpa using d1)
              · omega
              · exact of_decide_eq_false d3 h), Int.toNat_natCast, tk_in s hm] at hD2
            have HD2 := Lib.hid hD2
            have hq := hk.q m hm
            rw [tk_in s hm] at hq
            have hn8 := hk.kh.len.2
            clear hD2 HD
            go_upto_region 7 with (fail)
            have hE6 := (Ext.refl wr).alloc (.cells #[.int .i64 p0, .int .i64 p1, .int .i64 (m : Int), .int .i64 p3] 41)
            have hB6 := Blk.new wr #[.int .i64 p0, .int .i64 p1, .int .i64 (m : Int), .int .i64 p3] 41
            have hge6 : w.heap.size ≤ wr.heap.size := hXw.size
            generalize wr.alloc _ = W6 at hE6 hB6 ⊢
            generalize wr.heap.size = g6 at hB6 hge6 ⊢
            have hX6 := hX.trans hE6
            obtain ⟨bt, ot, r, rfl, hat⟩ := (HV.out.ext (hX1.trans hX6)).at hm
            have hc6 := hB6.cell
            have hc2 := hcB W6 hX6
            obtain ⟨Ar, cr, hr⟩ := hat.row
            obtain ⟨hIr, t0, t1, t2, t3, t4, t5, t6, t7, t8⟩ := hat
            generalize s.tasks[m] = t at *
            subst hr
            clear y0 y1 y2 y3 hcr hIr
            go_upto_region 10 with (fail)
            have hE7 := (Ext.refl W6).alloc (.cells #[.string t.name, .int .i64 t.T, .int .i64 t.D, .int .i64 t.mode, .int .i64 t.q, .int .i64 t.theta, .slice Ar t.regs.length cr, .int .u64 t.ecb, .int .u64 t.ucb] 45)
            have hB7 := Blk.new W6 #[.string t.name, .int .i64 t.T, .int .i64 t.D, .int .i64 t.mode, .int .i64 t.q, .int .i64 t.theta, .slice Ar t.regs.length cr, .int .u64 t.ecb, .int .u64 t.ucb] 45
            clear t0 t1 t2 t3 t4 t5 t6 t7 t8 hc6 hc2
            generalize W6.alloc _ = W7 at hE7 hB7 ⊢
            generalize W6.heap.size = g7 at hB7 ⊢
            have hX7 := hX6.trans hE7
            have hB67 := hB6.ext hE7
            have hu6 := hB67.under
            have hu7 := hB7.under
            have hc6 := hB67.cell
            have hc7 := hB7.cell
            clear hB6 hE6 hE7 hX6
            have hXW7 := hX1.trans hX7
            by_cases m0 : t.mode = 0
            · have dm : (t.mode == 0) = true := by simpa using m0
              have hL := HLK.out W7 hXW7
              have hD3 := HD2.out
              rw [if_pos m0] at hD3
              generalize lastL (L.take k) (m : Int) = q at hL hD3
              have HD3 := Lib.hid hD3
              have HL := Lib.hid hL
              clear hL hD3 HD2 m0
              go_wp2_with (fail)
              refine HL.out.mono ?_
              rintro e W8 ⟨rfl, hX8⟩
              clear hc6 hc7
              cases dq : decide (q = 7) with
              | true =>
                have dq2 : (q == 7) = true := by rw [beq_iff_eq]; exact of_decide_eq_true dq
                have HN := Lib.hid (HT.out (by rw [HD3.out, dq]))
                clear dq
                go_wp2_with (fail)
                exact ⟨⟨k + 1, hlt, rfl, HN, hX7.trans hX8⟩, by simp [intOf]; omega⟩
              | false =>
                have dq2 : (q == 7) = false := by rw [beq_eq_false_iff_ne]; exact of_decide_eq_false dq
                have hN := HF.out (by rw [HD3.out, dq])
                subst hN
                clear dq
                go_wp2_with (fail)
                go_ret
                exact ⟨rfl, hXW7.trans hX8⟩
            · have dm : (t.mode == 0) = false := by simpa using m0
              by_cases m1 : t.mode = 1
              · have dm1 : (t.mode == 1) = true := by simpa using m1
                have hL := HOLD.out W7 hXW7 k m (by omega) (by omega)
                have hD3 := HD2.out
                rw [if_neg m0, if_pos m1] at hD3
                have hqb : oldV (oldE (L.take k) m) ≤ 1099511627776 := by
                  cases ho : oldE (L.take k) m with
                  | none => show (-1 : Int) ≤ _; omega
                  | some a => exact old_le (fun e he => (H0.out e (List.mem_of_mem_take he)).2) ho
                generalize oldV (oldE (L.take k) m) = q at hL hD3 hqb
                have HD3 := Lib.hid hD3
                have HL := Lib.hid hL
                clear hL hD3 HD2 m0 m1
                go_wp2_with (fail)
                refine HL.out.mono ?_
                rintro e W8 ⟨rfl, hX8⟩
                have hd6 := hu6 W8 hX8
                have hd7 := hu7 W8 hX8
                clear hc6 hc7
                cases d5 : decide (0 ≤ q) with
                | false =>
                  have hN := HF.out (by rw [HD3.out, d5]; rfl)
                  subst hN
                  go_wp2_with (fail)
                  go_ret
                  exact ⟨rfl, hXW7.trans hX8⟩
                | true =>
                  have hq0 := of_decide_eq_true d5
                  have hw : IntKind.i64.wrap (q + t.q) = q + t.q := by rw [IntKind.wrap_i64]; omega
                  have hw2 : wrap64 (q + t.q) = q + t.q := by unfold wrap64; omega
                  cases dq : decide (q + t.q = p0) with
                  | true =>
                    have dq2 : (q + t.q == p0) = true := by rw [beq_iff_eq]; exact of_decide_eq_true dq
                    have HN := Lib.hid (HT.out (by rw [HD3.out, d5, dq]; rfl))
                    clear dq
                    go_wp2_with (fail)
                    exact ⟨⟨k + 1, hlt, rfl, HN, hX7.trans hX8⟩, by simp [intOf]; omega⟩
                  | false =>
                    have dq2 : (q + t.q == p0) = false := by rw [beq_eq_false_iff_ne]; exact of_decide_eq_false dq
                    have hN := HF.out (by rw [HD3.out, d5, dq]; rfl)
                    subst hN
                    clear dq
                    go_wp2_with (fail)
                    go_ret
                    exact ⟨rfl, hXW7.trans hX8⟩
              · have dm1 : (t.mode == 1) = false := by simpa using m1
                have hD3 := HD2.out
                rw [if_neg m0, if_neg m1, HSM.out] at hD3
                have HD3 := Lib.hid hD3
                clear hD3 HD2 HSM m0 m1
                have hth : t.theta = t.theta := rfl
                generalize t.theta = th at *
                go_wp2_with (fail)
                go_loopw [8, 10] (fun o i wr => ∃ (j : Nat) (b2 : Bool), k + 1 ≤ j ∧ j ≤ L.length ∧ i = .int .i64 j ∧ o = .bool b2 ∧ Hid (∀ x ∈ (L.drop (k + 1)).take (j - (k + 1)), decide (x.tick = p0) = true) ∧ Hid (((L.drop (k + 1)).take (j - (k + 1))).any (thrB th) = b2) ∧ Ext W7 wr) (fun _ i _ => L.length - (intOf i).toNat)
                case atStart => exact ⟨k + 1, false, by omega, by omega, by simp, rfl, Lib.hid (by simp), Lib.hid (by simp), Ext.refl W7⟩
                case round =>
                  obtain ⟨j, b2, hj1, hj2, rfl, rfl, hallt, hany, hXr⟩ := hrel
                  clear hc6 hc7
                  have hd6 := hu6 wr hXr
                  have hd7 := hu7 wr hXr
                  by_cases hjl : j < L.length
                  · have hlen : j - (k + 1) < (L.drop (k + 1)).length := by rw [List.length_drop]; omega
                    have hget : (L.drop (k + 1))[j - (k + 1)] = evAt L j := by
                      rw [List.getElem_drop, evAt_in hjl]
                      congr 1
                      omega
                    obtain ⟨bl', ol', e', hxj⟩ := HA.out.at hjl
                    obtain ⟨rfl, rfl⟩ : bl = bl' ∧ ol = ol' := by simpa using e'
                    obtain ⟨z0, z1, z2, z3⟩ := hxj wr (hXW7.trans hXr)
                    have hnx : (L.drop (k + 1)).take (j + 1 - (k + 1)) = (L.drop (k + 1)).take (j - (k + 1)) ++ [evAt L j] := by
                      rw [show j + 1 - (k + 1) = j - (k + 1) + 1 by omega, List.take_succ_eq_append_getElem hlen, hget]
                    have HNX := Lib.hid hnx
                    have HGET := Lib.hid hget
                    clear hxj e' z3 hnx hget
                    generalize hpj : evAt L j = pj at *
                    obtain ⟨q0, q1, q2, q3⟩ := pj
                    dsimp only at z0 z1 z2
                    clear hpj
                    cases dt : (q0 == p0) with
                    | false =>
                      have HTW := Lib.hid (show ((L.drop (k + 1)).takeWhile fun x => decide (x.tick = p0)) = (L.drop (k + 1)).take (j - (k + 1)) from takeWhile_take _ _ (Nat.le_of_lt hlen) hallt.out (fun h => by
                        rw [HGET.out]
                        rw [beq_eq_false_iff_ne] at dt
                        exact decide_eq_false dt))
                      clear HNX HGET hlen
                      cases b2 with
                      | true =>
                        have HN := Lib.hid (HT.out (by rw [HD3.out, HTW.out, hany.out]))
                        go_wp2_with (fail)
                        go_quiet (fail)
                        go_wp2_with (fail)
                        exact ⟨⟨k + 1, hlt, rfl, HN, (hX7.trans hXr).drewN _⟩, by simp [intOf]; omega⟩
                      | false =>
                        have hN := HF.out (by rw [HD3.out, HTW.out, hany.out])
                        subst hN
                        go_wp2_with (fail)
                        go_quiet (fail)
                        go_wp2_with (fail)
                        go_ret
                        exact ⟨rfl, (hXW7.trans hXr).drewN _⟩
                    | true =>
                      have HA1 := Lib.hid (show ∀ x ∈ (L.drop (k + 1)).take (j + 1 - (k + 1)), decide (x.tick = p0) = true from fun x hx => by
                        rw [HNX.out] at hx
                        rcases mem_snoc hx with hx | rfl
                        · exact hallt.out x hx
                        · exact decide_eq_true (by simpa using dt))
                      have HA2 := Lib.hid (show ((L.drop (k + 1)).take (j + 1 - (k + 1))).any (thrB th) = (b2 || thrB th ⟨q0, q1, q2, q3⟩) by rw [HNX.out, List.any_append, hany.out]; simp)
                      clear HNX HGET hlen
                      cases b2 with
                      | true =>
                        go_wp2_with (fail)
                        go_quiet (fail)
                        go_wp2_with (fail)
                        go_quiet (fail)
                        go_wp2_with (fail)
                        exact ⟨⟨j + 1, _, by omega, hjl, rfl, rfl, HA1, Lib.hid (by rw [HA2.out]; rfl), hXr.drewN _⟩, by simp [intOf]; omega⟩
                      | false =>
                        cases d4 : (q1 == 4) with
                        | true =>
                          have e4 : q1 = 4 := by simpa using d4
                          cases dz : decide (q2 < th) with
                          | true =>
                            have H9 := Lib.hid (show (false || thrB th ⟨q0, q1, q2, q3⟩) = true by unfold thrB; dsimp only; rw [decide_eq_true e4, dz]; rfl)
                            clear e4
                            go_wp2_with (fail)
                            go_quiet (fail)
                            go_wp2_with (fail)
                            go_quiet (fail)
                            go_wp2_with (fail)
                            exact ⟨⟨j + 1, _, by omega, hjl, rfl, rfl, HA1, Lib.hid (by rw [HA2.out]; exact H9.out), hXr.drewN _⟩, by simp [intOf]; omega⟩
                          | false =>
                            have H9 := Lib.hid (show (false || thrB th ⟨q0, q1, q2, q3⟩) = false by unfold thrB; dsimp only; rw [dz, Bool.and_false]; rfl)
                            clear e4
                            go_wp2_with (fail)
                            go_quiet (fail)
                            go_wp2_with (fail)
                            go_quiet (fail)
                            go_wp2_with (fail)
                            exact ⟨⟨j + 1, _, by omega, hjl, rfl, rfl, HA1, Lib.hid (by rw [HA2.out]; exact H9.out), hXr.drewN _⟩, by simp [intOf]; omega⟩
                        | false =>
                          have e4 : ¬ q1 = 4 := by simpa using d4
                          cases d6 : (q1 == 6) with
                          | true =>
                            have e6 : q1 = 6 := by simpa using d6
                            cases dz : decide (q2 < th) with
                            | true =>
                              have H9 := Lib.hid (show (false || thrB th ⟨q0, q1, q2, q3⟩) = true by unfold thrB; dsimp only; rw [decide_eq_true e6, dz, Bool.or_true]; rfl)
                              clear e4 e6
                              go_wp2_with (fail)
                              go_quiet (fail)
                              go_wp2_with (fail)
                              go_quiet (fail)
                              go_wp2_with (fail)
                              exact ⟨⟨j + 1, _, by omega, hjl, rfl, rfl, HA1, Lib.hid (by rw [HA2.out]; exact H9.out), hXr.drewN _⟩, by simp [intOf]; omega⟩
                            | false =>
                              have H9 := Lib.hid (show (false || thrB th ⟨q0, q1, q2, q3⟩) = false by unfold thrB; dsimp only; rw [dz, Bool.and_false]; rfl)
                              clear e4 e6
                              go_wp2_with (fail)
                              go_quiet (fail)
                              go_wp2_with (fail)
                              go_quiet (fail)
                              go_wp2_with (fail)
                              exact ⟨⟨j + 1, _, by omega, hjl, rfl, rfl, HA1, Lib.hid (by rw [HA2.out]; exact H9.out), hXr.drewN _⟩, by simp [intOf]; omega⟩
                          | false =>
                            have e6 : ¬ q1 = 6 := by simpa using d6
                            have H9 := Lib.hid (show (false || thrB th ⟨q0, q1, q2, q3⟩) = false by unfold thrB; dsimp only; rw [decide_eq_false e4, decide_eq_false e6]; rfl)
                            clear e4 e6
                            go_wp2_with (fail)
                            go_quiet (fail)
                            go_wp2_with (fail)
                            go_quiet (fail)
                            go_wp2_with (fail)
                            exact ⟨⟨j + 1, _, by omega, hjl, rfl, rfl, HA1, Lib.hid (by rw [HA2.out]; exact H9.out), hXr.drewN _⟩, by simp [intOf]; omega⟩
                  · have hje : j = L.length := by omega
                    have HTW := Lib.hid (show ((L.drop (k + 1)).takeWhile fun x => decide (x.tick = p0)) = (L.drop (k + 1)).take (j - (k + 1)) from takeWhile_take _ _ (by rw [List.length_drop]; omega) hallt.out (fun h => by rw [List.length_drop] at h; omega))
                    clear hje
                    cases b2 with
                    | true =>
                      have HN := Lib.hid (HT.out (by rw [HD3.out, HTW.out, hany.out]))
                      go_wp2_with (fail)
                      go_quiet (fail)
                      go_wp2_with (fail)
                      exact ⟨⟨k + 1, hlt, rfl, HN, (hX7.trans hXr).drewN _⟩, by simp [intOf]; omega⟩
                    | false =>
                      have hN := HF.out (by rw [HD3.out, HTW.out, hany.out])
                      subst hN
                      go_wp2_with (fail)
                      go_quiet (fail)
                      go_wp2_with (fail)
                      go_ret
                      exact ⟨rfl, (hXW7.trans hXr).drewN _⟩
    · have hke : k = L.length := by omega
      subst hke
      have hbt : b = true := HM.out.symm.trans hall.out
      subst hbt
      go_wp2_with (fail)
      go_ret
      exact ⟨rfl, hX1.trans hX⟩
end Go.Proofs.YtniejidekflmiaaDoor
