/- Rows of events: are two one? the last one of a task. -/
import Derived.Test.YtniejidekflmiaaGreatDoorProg
import Derived.Test.YtniejidekflmiaaGreatDoorBase
import Derived.Test.YtniejidekflmiaaGreatDoorHeldX
import Derived.Test.YtniejidekflmiaaGreatDoorHeldN
import Derived.Test.YtniejidekflmiaaGreatDoorApp
import Derived.Test.YtniejidekflmiaaGreatDoorExt0
import Derived.Test.YtniejidekflmiaaGreatDoorChg
import Derived.Test.YtniejidekflmiaaGreatDoorRowB
import Derived.Test.YtniejidekflmiaaGreatDoorKM
import Derived.Test.YtniejidekflmiaaGreatDoorKP1
import Derived.Test.YtniejidekflmiaaGreatDoorKO
import Derived.Test.YtniejidekflmiaaGreatDoorOpenI
import Derived.Test.YtniejidekflmiaaGreatDoorKker
import Derived.Test.YtniejidekflmiaaGreatDoorTskZ
import Derived.Test.YtniejidekflmiaaGreatDoorTskA
import Derived.Test.YtniejidekflmiaaGreatDoorKch
import Derived.Deep.Cut
import Derived.Lib.Hide
import Derived.OwnWalk
import Derived.BigQuiet
import Derived.Laws.StructEq
namespace Go.Proofs.YtniejidekflmiaaGreatDoor
open Go.RowKit
attribute [local go_sem] setCell_twice ByteArray.toList_eq str_list Ext.alloc Ext.drew
set_option linter.unusedSimpArgs false
set_option linter.unusedVariables false
set_option maxRecDepth 100000
set_option maxHeartbeats 1600000
attribute [local irreducible] Calls

/-- an event's cells -/
def EvR (w : World) (b o : Nat) (e : Ev) : Prop := w.cell? ⟨b, o, none⟩ = some (.int .i64 e.tick) ∧ w.cell? ⟨b, o + 1, none⟩ = some (.int .i64 e.kind) ∧ w.cell? ⟨b, o + 2, none⟩ = some (.int .i64 e.task) ∧ w.cell? ⟨b, o + 3, none⟩ = some (.int .i64 e.n)
theorem EvR.ext {w w' : World} {b o : Nat} {e : Ev} (h : EvR w b o e) (hx : Ext w w') : EvR w' b o e := ⟨hx.cell h.1, hx.cell h.2.1, hx.cell h.2.2.1, hx.cell h.2.2.2⟩
/-- v reads as the events L -/
def Evs (w : World) (v : Value) (L : List Ev) : Prop := SlR EvR 4 Any w v L
theorem Evs.ext {w w' : World} {v : Value} {L : List Ev} (h : Evs w v L) (hx : Ext w w') : Evs w' v L := SlR.to h fun _ _ _ h => h.ext hx
theorem Evs.form {w : World} {v : Value} {L : List Ev} (h : Evs w v L) : ∃ A c, v = .slice A L.length c ∧ L.length ≤ c ∧ c ≤ maxLen := SlR.form h
theorem Evs.at {w : World} {A : Option Addr} {n c : Nat} {L : List Ev} (h : Evs w (.slice A n c) L) {k : Nat} (hk : k < L.length) : ∃ b o, A = some ⟨b, o, none⟩ ∧ ∀ w', Ext w w' →
    w'.cell? ⟨b, o + k * 4, none⟩ = some (.int .i64 (evAt L k).tick) ∧ w'.cell? ⟨b, o + k * 4 + 1, none⟩ = some (.int .i64 (evAt L k).kind) ∧ w'.cell? ⟨b, o + k * 4 + 2, none⟩ = some (.int .i64 (evAt L k).task) ∧ w'.cell? ⟨b, o + k * 4 + 3, none⟩ = some (.int .i64 (evAt L k).n) := by
  obtain ⟨b, o, e, hx⟩ := SlR.at h hk
  rw [evAt_in hk]
  exact ⟨b, o, e, fun w' hw => hx.ext hw⟩
theorem OwnL.evs {w : World} {base : Nat} {v : Value} {L : List Ev} (h : OwnL encEv w base 43 4 v L) : Evs w v L :=
  OwnL.read h encEv_len (fun _ _ _ => trivial) (fun _ _ _ _ hx => ⟨hx 0 _ rfl, hx 1 _ rfl, hx 2 _ rfl, hx 3 _ rfl⟩)
def evV (e : Ev) : Value := .agg #[.int .i64 e.tick, .int .i64 e.kind, .int .i64 e.task, .int .i64 e.n]
theorem sameEv_any (va vb : Value) (L M : List Ev) (w : World) (ha : Evs w va L) (hb : Evs w vb M) :
    Calls Tryz.prog 16 #[va, vb] w fun e w' => e = .returned (.bool (decide (L = M))) ∧ Ext w w' := by
  obtain ⟨A, c, rfl, hc1, hc2⟩ := ha.form
  obtain ⟨B, d, rfl, _, _⟩ := hb.form
  unfold maxLen at hc2
  by_cases hl : L.length = M.length
  · have hdl : ((L.length : Int) == (M.length : Int)) = true := by rw [hl]; simp
    have HL := Lib.hid hl
    have HA := Lib.hid ha
    have HB := Lib.hid hb
    clear hl ha hb
    go_enter Tryz.func16, Tryz.ntmps16
    go_wp2_with (fail)
    go_loopw [5] (fun i wr => ∃ k : Nat, k ≤ L.length ∧ i = .int .i64 k ∧ Hid (L.take k = M.take k) ∧ Ext w wr) (fun i _ => L.length - (intOf i).toNat)
    case atStart => exact ⟨0, Nat.zero_le _, rfl, Lib.hid rfl, Ext.refl w⟩
    case round =>
      obtain ⟨k, hk, rfl, ht, hX⟩ := hrel
      by_cases hlt : k < L.length
      · have hltM : k < M.length := by have := HL.out; omega
        obtain ⟨b, o, rfl, hx⟩ := HA.out.at hlt
        obtain ⟨b', o', rfl, hy⟩ := HB.out.at hltM
        obtain ⟨x0, x1, x2, x3⟩ := hx wr hX
        obtain ⟨y0, y1, y2, y3⟩ := hy wr hX
        have hst : evAt L k = evAt M k → L.take (k + 1) = M.take (k + 1) := fun e => by
          rw [List.take_succ_eq_append_getElem hlt, List.take_succ_eq_append_getElem hltM, ht.out, ← evAt_in hlt, ← evAt_in hltM, e]
        have hno : evAt L k ≠ evAt M k → L ≠ M := fun e h => e (by rw [h])
        have HST := Lib.hid hst
        have HNO := Lib.hid hno
        clear hx hy hst hno
        generalize hp : evAt L k = p at *
        generalize hq : evAt M k = q at *
        clear hp hq
        obtain ⟨p0, p1, p2, p3⟩ := p
        obtain ⟨q0, q1, q2, q3⟩ := q
        dsimp only at x0 x1 x2 x3 y0 y1 y2 y3
        cases e0 : (p0 == q0) with
        | false =>
          have hn := HNO.out (fun h => by injection h with h; simp [h] at e0)
          have HN := Lib.hid (decide_eq_false hn)
          clear hn
          go_wp2_with (fail)
          go_quiet (fail)
          go_wp2_with (fail)
          go_ret
          exact ⟨by rw [HN.out]; rfl, hX.drewN _⟩
        | true =>
          cases e1 : (p1 == q1) with
          | false =>
            have hn := HNO.out (fun h => by injection h with _ h; simp [h] at e1)
            have HN := Lib.hid (decide_eq_false hn)
            clear hn
            go_wp2_with (fail)
            go_quiet (fail)
            go_wp2_with (fail)
            go_ret
            exact ⟨by rw [HN.out]; rfl, hX.drewN _⟩
          | true =>
            cases e2 : (p2 == q2) with
            | false =>
              have hn := HNO.out (fun h => by injection h with _ _ h; simp [h] at e2)
              have HN := Lib.hid (decide_eq_false hn)
              clear hn
              go_wp2_with (fail)
              go_quiet (fail)
              go_wp2_with (fail)
              go_ret
              exact ⟨by rw [HN.out]; rfl, hX.drewN _⟩
            | true =>
              cases e3 : (p3 == q3) with
              | false =>
                have hn := HNO.out (fun h => by injection h with _ _ _ h; simp [h] at e3)
                have HN := Lib.hid (decide_eq_false hn)
                clear hn
                go_wp2_with (fail)
                go_quiet (fail)
                go_wp2_with (fail)
                go_ret
                exact ⟨by rw [HN.out]; rfl, hX.drewN _⟩
              | true =>
                have HN := Lib.hid (HST.out (by rw [eq_of_beq e0, eq_of_beq e1, eq_of_beq e2, eq_of_beq e3]))
                go_wp2_with (fail)
                go_quiet (fail)
                go_wp2_with (fail)
                exact ⟨⟨k + 1, hlt, rfl, HN, hX.drewN _⟩, by simp [intOf]; omega⟩
      · have hke : k = L.length := by omega
        subst hke
        have he : L = M := by
          have h := ht.out
          rw [List.take_length] at h
          rw [h, HL.out, List.take_length]
        have HE := Lib.hid (decide_eq_true he)
        clear he
        go_wp2_with (fail)
        go_ret
        exact ⟨by rw [HE.out]; rfl, hX⟩
  · have hdl : ((L.length : Int) == (M.length : Int)) = false := by simp; omega
    have hE : decide (L = M) = false := decide_eq_false (fun e => hl (by rw [e]))
    have HE := Lib.hid hE
    clear hE hl ha hb
    go_enter Tryz.func16, Tryz.ntmps16
    go_wp2_with (fail)
    go_ret
    exact ⟨by rw [HE.out]; rfl, Ext.refl w⟩
theorem evTask_any (e0 e1 e2 e3 : Int) (w : World) : Calls Tryz.prog 51 #[.agg #[.int .i64 e0, .int .i64 e1, .int .i64 e2, .int .i64 e3]] w fun r w' => r = .returned (.bool (⟨e0, e1, e2, e3⟩ : Ev).isTask) ∧ Ext w w' := by
  have hE : (⟨e0, e1, e2, e3⟩ : Ev).isTask = (decide (0 ≤ e2) && decide (e2 < 8)) := rfl
  rw [hE]
  cases d : decide (0 ≤ e2) with
  | false =>
    go_enter Tryz.func51, Tryz.ntmps51
    go_wp2_with (fail)
    go_ret
    exact ⟨rfl, (Ext.refl w).alloc _⟩
  | true =>
    go_enter Tryz.func51, Tryz.ntmps51
    go_wp2_with (fail)
    go_ret
    exact ⟨rfl, (Ext.refl w).alloc _⟩
end Go.Proofs.YtniejidekflmiaaGreatDoor
/- Rows of events: the oldest job; is it fair? -/
namespace Go.Proofs.YtniejidekflmiaaGreatDoor
open Go.RowKit
attribute [local go_sem] setCell_twice ByteArray.toList_eq str_list Ext.alloc Ext.drew
set_option linter.unusedSimpArgs false
set_option linter.unusedVariables false
set_option maxRecDepth 100000
set_option maxHeartbeats 1600000
attribute [local irreducible] Calls

/-- an array of eight numbers -/
structure Arr8 (w : World) (t : TypeId) (g : Nat) (xs : List Int) : Prop where
  box : Blk w g (xs.map (Value.int .i64)).toArray t
  len : xs.length = 8
section
variable {w w' : World} {t : TypeId} {g : Nat} {xs : List Int}
theorem Arr8.ext (h : Arr8 w t g xs) (hx : Ext w w') : Arr8 w' t g xs := ⟨h.box.ext hx, h.len⟩
theorem Arr8.at (h : Arr8 w t g xs) {i : Nat} (hi : i < 8) : w.cell? ⟨g, i, none⟩ = some (.int .i64 (xs.getD i 0)) := by
  have hi2 : i < xs.length := by rw [h.len]; exact hi
  rw [h.box.cell, List.getElem?_toArray, List.getElem?_map, List.getElem?_eq_getElem hi2, getD_at hi2]
  rfl
theorem Arr8.set (h : Arr8 w t g xs) (i : Nat) (x : Int) : Arr8 (w.setCell ⟨g, i, none⟩ (.int .i64 x)) t g (xs.set i x) := by
  have := h.box.set i (.int .i64 x)
  refine ⟨?_, by rw [List.length_set]; exact h.len⟩
  rw [List.map_set]
  simpa using this
theorem list8_ext {xs ys : List Int} (h1 : xs.length = 8) (h2 : ys.length = 8) (h : ∀ i, i < 8 → xs.getD i 0 = ys.getD i 0) : xs = ys := by
  refine List.ext_getElem (by omega) fun i a b => ?_
  have := h i (by omega)
  rwa [getD_at a, getD_at b] at this
end
/-- when the jobs that are pending were let in, by the first j events -/
def arrO (L : List Ev) (j : Nat) : List Int := (List.range 8).map fun (i : Nat) => oldV (sinceL (L.take j) i)
theorem arrO_len (L : List Ev) (j : Nat) : (arrO L j).length = 8 := by simp [arrO]
theorem arrO_at (L : List Ev) (j : Nat) {i : Nat} (hi : i < 8) : (arrO L j).getD i 0 = oldV (sinceL (L.take j) i) := by
  rw [getD_at (by rw [arrO_len]; exact hi)]
  simp [arrO]
theorem arrO_zero (L : List Ev) : arrO L 0 = List.replicate 8 (-1) := rfl
theorem arrO_step {L : List Ev} {j : Nat} (hj : j < L.length) : arrO L (j + 1) = if (evAt L j).isTask = false then arrO L j else if (evAt L j).kind = 1 then (arrO L j).set (evAt L j).task.toNat (evAt L j).tick else if (evAt L j).kind = 8 ∨ (evAt L j).kind = 9 then (arrO L j).set (evAt L j).task.toNat (-1) else arrO L j := by
  have hs : ∀ i : Int, sinceL (L.take (j + 1)) i = if (evAt L j).task = i then (if (evAt L j).kind = 1 then some (evAt L j).tick else if (evAt L j).kind = 8 ∨ (evAt L j).kind = 9 then none else sinceL (L.take j) i) else sinceL (L.take j) i := fun i => by
    rw [List.take_succ_eq_append_getElem hj, since_snoc, ← evAt_in hj]
  generalize evAt L j = e at hs
  refine list8_ext (arrO_len _ _) ?_ fun i hi => ?_
  · split
    · exact arrO_len _ _
    · split
      · rw [List.length_set]; exact arrO_len _ _
      · split
        · rw [List.length_set]; exact arrO_len _ _
        · exact arrO_len _ _
  · rw [arrO_at L _ hi, hs]
    cases ht : e.isTask with
    | false =>
      rw [if_pos rfl, arrO_at L _ hi, if_neg]
      intro h
      unfold Ev.isTask at ht
      rw [decide_eq_true (by omega), decide_eq_true (by omega)] at ht
      cases ht
    | true =>
      rw [if_neg (show ¬ (true = false) by decide)]
      unfold Ev.isTask at ht
      simp only [Bool.and_eq_true, decide_eq_true_eq] at ht
      by_cases e1 : e.task = i
      · have e2 : e.task.toNat = i := by omega
        rw [if_pos e1, e2]
        by_cases k1 : e.kind = 1
        · rw [if_pos k1, if_pos k1, getD_set (by rw [arrO_len]; exact hi), if_pos rfl]
          rfl
        · rw [if_neg k1, if_neg k1]
          by_cases k2 : e.kind = 8 ∨ e.kind = 9
          · rw [if_pos k2, if_pos k2, getD_set (by rw [arrO_len]; exact hi), if_pos rfl]
            rfl
          · rw [if_neg k2, if_neg k2, arrO_at L _ hi]
      · rw [if_neg e1]
        have e2 : e.task.toNat ≠ i := by omega
        have hset : ∀ x : Int, ((arrO L j).set e.task.toNat x).getD i 0 = oldV (sinceL (L.take j) i) := fun x => by
          rw [getD_set (by rw [arrO_len]; omega), if_neg e2, arrO_at L _ hi]
        split
        · rw [hset]
        · split
          · rw [hset]
          · rw [arrO_at L _ hi]
theorem oldE_step {L : List Ev} (h0 : ∀ e ∈ L, 0 ≤ e.tick) (k : Nat) : oldV (oldE L (k + 1)) = if 0 ≤ oldV (sinceL L k) ∧ (oldV (oldE L k) < 0 ∨ oldV (sinceL L k) < oldV (oldE L k)) then oldV (sinceL L k) else oldV (oldE L k) := by
  have hs : oldE L (k + 1) = match sinceL L k with
    | none => oldE L k
    | some b => match oldE L k with
      | none => some b
      | some a => if b < a then some b else some a := by
    unfold oldE
    rw [List.range_succ, List.map_append]
    exact minO_snoc _ _
  have hn := since_nn h0 (k : Int)
  have ho := fun a => old_nn (i := k) (a := a) h0
  cases h1 : sinceL L k with
  | none =>
    rw [h1] at hs
    rw [hs]
    rw [if_neg]
    intro h
    have := h.1
    simp only [oldV] at this
    omega
  | some b =>
    rw [h1] at hs
    have hb := hn b h1
    cases h2 : oldE L k with
    | none =>
      rw [h2] at hs
      rw [hs]
      show b = if 0 ≤ b ∧ ((-1 : Int) < 0 ∨ b < -1) then b else -1
      rw [if_pos ⟨hb, .inl (by omega)⟩]
    | some a =>
      rw [h2] at hs
      have ha := ho a h2
      rw [hs]
      show oldV (if b < a then some b else some a) = if 0 ≤ b ∧ (a < 0 ∨ b < a) then b else a
      by_cases hlt : b < a
      · rw [if_pos hlt, if_pos ⟨hb, .inr hlt⟩]; rfl
      · rw [if_neg hlt, if_neg (fun h => by omega)]; rfl
end Go.Proofs.YtniejidekflmiaaGreatDoor
/- Is a row of events fair? -/
namespace Go.Proofs.YtniejidekflmiaaGreatDoor
open Go.RowKit
attribute [local go_sem] setCell_twice ByteArray.toList_eq str_list Ext.alloc Ext.drew
set_option linter.unusedSimpArgs false
set_option linter.unusedVariables false
set_option maxRecDepth 100000
set_option maxHeartbeats 1600000
attribute [local irreducible] Calls

theorem takeWhile_take {α : Type} {p : α → Bool} : ∀ (l : List α) (m : Nat), m ≤ l.length → (∀ x ∈ l.take m, p x = true) → (∀ h : m < l.length, p l[m] = false) → l.takeWhile p = l.take m
  | [], m, _, _, _ => by simp
  | x :: l, 0, _, _, h => by
    have := h (by simp)
    simp only [List.getElem_cons_zero] at this
    rw [List.takeWhile_cons_of_neg (by simp [this]), List.take_zero]
  | x :: l, m + 1, hm, h1, h2 => by
    rw [List.take_succ_cons, List.takeWhile_cons_of_pos (h1 x (by simp)), takeWhile_take l m (by simpa using hm) (fun y hy => h1 y (by simp [hy])) (fun h => by have := h2 (by simpa using h); simpa using this)]
theorem fair_none {s : TSet} {L : List Ev} {k : Nat} (hk : k < L.length) (h : fairAt s L k = false) : fairB s L = false := by
  unfold fairB
  rw [List.all_eq_false]
  exact ⟨k, List.mem_range.2 hk, by rw [h]; simp⟩
theorem fair_step {s : TSet} {L : List Ev} {k : Nat} (h1 : (List.range k).all (fairAt s L) = true) (h : fairAt s L k = true) : (List.range (k + 1)).all (fairAt s L) = true := by
  rw [List.range_succ, List.all_append, h1]
  simp [h]
theorem since_le {L : List Ev} {B : Int} (h : ∀ e ∈ L, e.tick ≤ B) : ∀ (i a : Int), sinceL L i = some a → a ≤ B := by
  have : ∀ (n : Nat), n ≤ L.length → ∀ (i a : Int), sinceL (L.take n) i = some a → a ≤ B := by
    intro n
    induction n with
    | zero => intro _ i a h; simp [sinceL] at h
    | succ n ih =>
      intro hn i a hs
      rw [List.take_succ_eq_append_getElem (by omega), since_snoc] at hs
      split at hs
      · split at hs
        · cases hs; exact h _ (List.getElem_mem _)
        · split at hs
          · cases hs
          · exact ih (by omega) i a hs
      · exact ih (by omega) i a hs
  intro i a hs
  have := this L.length (Nat.le_refl _)
  rw [List.take_length] at this
  exact this i a hs
theorem old_le {L : List Ev} {B : Int} (h : ∀ e ∈ L, e.tick ≤ B) {i : Nat} {a : Int} (ho : oldE L i = some a) : a ≤ B := by
  unfold oldE at ho
  obtain ⟨h1, _⟩ := minO_some.1 ho
  obtain ⟨j, _, hj⟩ := List.mem_map.1 h1
  exact since_le h j a hj
end Go.Proofs.YtniejidekflmiaaGreatDoor
