/- Lemmas: audit: Fair; audit: ticks; audit: Ran; law 27: known; audit: Met; the document's Met; audit: Met. -/
import Derived.Test.YtlaflbepidkmnaaProg
import Derived.Test.YtlaflbepidkmnaaZc12
import Derived.Deep.Cut
import Derived.Lib.Hide
import Derived.OwnWalk
import Derived.BigQuiet
import Derived.Maps.RangeWalk
import Derived.Maps.OwnSet
import Derived.Maps.OwnOps
/- Au5 -/
namespace Go.Proofs.Ytlaflbepidkmnaa
open Go.RowKit
attribute [local go_sem] setCell_twice ByteArray.toList_eq str_list Ext.alloc Ext.drew
set_option linter.unusedSimpArgs false
set_option linter.unusedVariables false
set_option maxRecDepth 100000
set_option maxHeartbeats 1600000
attribute [local irreducible] Calls
theorem callE' {P : Program} {f : FuncId} {args : Array Value} {w0 w : World} {u : Value} (hX : Ext w0 w) (h : Calls P f args w fun e w' => e = .returned u ∧ Ext w w') : Calls P f args w fun e w' => e = .returned u ∧ Ext w0 w' :=
  h.mono fun _ _ ⟨he, hb⟩ => ⟨he, hX.trans hb⟩
theorem since_neg {L : List Ev} (h : ∀ e ∈ L, e.kind = 1 → 0 ≤ e.task) (i : Int) (hi : i < 0) : sinceL L i = none := by
  have : ∀ n, n ≤ L.length → sinceL (L.take n) i = none := by
    intro n
    induction n with
    | zero => intro _; rfl
    | succ n ih =>
      intro hn
      rw [List.take_succ_eq_append_getElem (by omega), since_snoc, ih (by omega)]
      have := h L[n] (List.getElem_mem _)
      split
      · split
        · rename_i e1 e2; have := this e2; omega
        · split <;> rfl
      · rfl
  have := this L.length (Nat.le_refl _)
  rwa [List.take_length] at this
theorem since_ticks {L : List Ev} {B : Int} (h : ∀ e ∈ L, 0 ≤ e.tick ∧ e.tick ≤ B) : ∀ (i a : Int), sinceL L i = some a → 0 ≤ a ∧ a ≤ B := by
  have : ∀ n, n ≤ L.length → ∀ (i a : Int), sinceL (L.take n) i = some a → 0 ≤ a ∧ a ≤ B := by
    intro n
    induction n with
    | zero => intro _ i a h; simp [sinceL] at h
    | succ n ih =>
      intro hn i a hs
      rw [List.take_succ_eq_append_getElem (by omega), since_snoc] at hs
      split at hs
      · split at hs
        · cases hs; exact h _ (List.getElem_mem _)
        · split at hs
          · cases hs
          · exact ih (by omega) i a hs
      · exact ih (by omega) i a hs
  intro i a hs
  have := this L.length (Nat.le_refl _)
  rw [List.take_length] at this
  exact this i a hs
theorem old_ticks {L : List Ev} {B : Int} (h : ∀ e ∈ L, 0 ≤ e.tick ∧ e.tick ≤ B) {i : Nat} {a : Int} (ho : oldE L i = some a) : 0 ≤ a ∧ a ≤ B := by
  unfold oldE at ho
  obtain ⟨h1, _⟩ := minO_some.1 ho
  obtain ⟨j, _, hj⟩ := List.mem_map.1 h1
  exact since_ticks h j a hj
theorem fairB_snoc {s : TSet} {L : List Ev} {k : Nat} : (List.range (k + 1)).all (fairAt s L) = ((List.range k).all (fairAt s L) && fairAt s L k) := by
  rw [List.range_succ, List.all_append]; simp
theorem fairB_not {s : TSet} {L : List Ev} {k : Nat} (hk : k < L.length) (h : fairAt s L k = false) : fairB s L = false := by
  unfold fairB
  rw [List.all_eq_false]
  exact ⟨k, List.mem_range.2 hk, by simp [h]⟩
theorem auFair_any (s : TSet) (v va : Value) (L : List Ev) (w : World) (hv : Tasks w v s.tasks) (hq : ∀ i, i < s.tasks.length → 0 ≤ (s.tk i).q ∧ (s.tk i).q ≤ 10000) (ha : Evs w va L) (hl : L.length ≤ 1000000) (hin : ∀ e ∈ L, evIn e) (hp : preIn s.tasks.length L) (hn : ∀ e ∈ L, e.kind = 1 → 0 ≤ e.task)
    (hs : L.Pairwise fun a b => a.tick ≤ b.tick) :
    Calls Try.prog 10 #[setV s v, va] w fun r w' => r = .returned (.bool (fairB s L)) ∧ Ext w w' := by
  obtain ⟨A, c, rfl, hcc, hcm, hxx⟩ := id hv
  obtain ⟨Ae, ce, rfl, hce1, hce2⟩ := ha.form
  clear hxx
  unfold maxLen at hcm hce2
  obtain ⟨res, hres⟩ : ∃ res, fairB s L = res := ⟨_, rfl⟩
  rw [hres]
  have HR := Lib.hid hres
  have HV := Lib.hid hv
  have HE := Lib.hid ha
  have HIN := Lib.hid hin
  have HQ := Lib.hid hq
  have HP := Lib.hid hp
  have HNE := Lib.hid hn
  have HS := Lib.hid hs
  clear hv ha hin hp hn hs hres hq
  unfold setV
  have hmm := @run_makeMap Try.prog
  go_enter Try.func10, Try.ntmps10
  go_upto_region 2 with (fail)
  generalize hW : World.alloc _ (.cells _ 58) = W
  have hX : Ext w W := by rw [← hW]; exact ((((Ext.refl w).alloc _).alloc _).alloc _).alloc _
  have hBs : Blk W w.heap.size #[.int .i64 s.reload, .slice A s.tasks.length c] 24 := by rw [← hW]; exact (((Blk.new _ _ _).alloc _).alloc _).alloc _
  have hW0 : WatchR W (w.heap.size + 1 + 1 + 1) (w.heap.size + 1) (w.heap.size + 1 + 1) 0 [] := by
    rw [← hW]
    refine ⟨Blk.new_at _ _ _ _ (by simp), ⟨fun _ => none, ?_, fun _ => rfl⟩, ?_, by omega⟩
    · have := (MapF.made Try.prog 3 3 (w.alloc (.cells #[.int .i64 s.reload, .slice A s.tasks.length c] 24))).ext (((Ext.refl _).alloc (.map #[] 0)).alloc (.cells #[.map (some (w.heap.size + 1)), .map (some (w.heap.size + 1 + 1))] 58))
      simpa using this
    · have := (MapF.made Try.prog 3 2 ((w.alloc (.cells #[.int .i64 s.reload, .slice A s.tasks.length c] 24)).alloc (.map #[] 0))).ext ((Ext.refl _).alloc (.cells #[.map (some (w.heap.size + 1)), .map (some (w.heap.size + 1 + 1))] 58))
      have e : (sinceL []) = fun _ => none := rfl
      rw [e]
      simpa using this
  clear hW hmm
  have HBS := Lib.hid hBs
  have HX := Lib.hid hX
  have HW0 := Lib.hid hW0
  have hgs := hX.size
  clear hBs hX hW0
  go_wp2_with (fail)
  go_loopw [6, 7, 14] (fun _ _ i wr => ∃ k : Nat, k ≤ L.length ∧ i = .int .i64 k ∧ WatchR wr (w.heap.size + 1 + 1 + 1) (w.heap.size + 1) (w.heap.size + 1 + 1) k (L.take k) ∧ Hid ((List.range k).all (fairAt s L) = true) ∧ Blk wr w.heap.size #[.int .i64 s.reload, .slice A s.tasks.length c] 24 ∧ Ext w wr) (fun _ _ i _ => L.length - (intOf i).toNat)
  case atStart => exact ⟨0, Nat.zero_le _, rfl, HW0.out, Lib.hid rfl, HBS.out, HX.out⟩
  case round =>
    obtain ⟨k, hk, rfl, hWk, hall, hBk, hXk⟩ := hrel
    by_cases hlt : k < L.length
    · have hin := HIN.out _ (List.getElem_mem hlt)
      have hpin := HP.out _ (List.getElem_mem hlt)
      have hfs := fairB_snoc (s := s) (L := L) (k := k)
      have hno := fun h => fairB_not (s := s) hlt h
      have htk := fun (h : L[k].kind = 5) h1 h2 => fairAt_eq (s := s) hlt HS.out (fun e he => (HIN.out e he).1) h h1 h2
      have htn := fun (h : L[k].kind ≠ 5) => fairAt_not (s := s) hlt h
      have hsn : L.take (k + 1) = L.take k ++ [L[k]] := List.take_succ_eq_append_getElem hlt
      have hneg := fun i hi => since_neg (L := L.take k) (fun e he => HNE.out e (List.mem_of_mem_take he)) i hi
      have hold := fun m a (h : oldE (L.take k) m = some a) => old_ticks (L := L.take k) (B := 1099511627776) (fun e he => by have := HIN.out e (List.mem_of_mem_take he); exact ⟨this.1, this.2.1⟩) h
      obtain ⟨b, o, rfl, hx⟩ := HE.out.at hlt
      obtain ⟨vd, hdr, hsl⟩ := Evs.cutAt HE.out (k + 1) hlt
      push_cast at hsl
      obtain ⟨x0, x1, x2, x3⟩ := hx wr hXk
      rw [evAt_in hlt] at x0 x1 x2 x3
      have HIN2 := Lib.hid hin
      have HPIN := Lib.hid hpin
      have HFS := Lib.hid hfs
      have HNO := Lib.hid hno
      have HTK := Lib.hid htk
      have HTN := Lib.hid htn
      have HSN := Lib.hid hsn
      have HNEG := Lib.hid hneg
      have HOLD := Lib.hid hold
      have HDR := Lib.hid hdr
      clear hin hpin hfs hno htk htn hsn hneg hold hdr hx
      generalize L[k] = e at *
      generalize hPk : L.take k = P at *
      generalize hRk : L.drop (k + 1) = R at *
      clear hPk hRk
      go_upto_region 5 with (fail)
      have hX5 := (Ext.refl wr).alloc (.cells #[.int .i64 e.tick, .int .i64 e.kind, .int .i64 e.task, .int .i64 e.n] 60)
      have hB5 := Blk.new wr #[.int .i64 e.tick, .int .i64 e.kind, .int .i64 e.task, .int .i64 e.n] 60
      generalize wr.alloc _ = W5 at hX5 hB5 ⊢
      generalize wr.heap.size = ge at hB5 ⊢
      have hce := hB5.under
      have hce0 := hB5.cell
      have hcs := (hBk.ext hX5).under
      have hcs0 := (hBk.ext hX5).cell
      have hsee := fun w' (hx : Ext W5 w') => sees_au _ _ _ _ P e w' (hWk.ext (hX5.trans hx)) (by omega) HIN2.out
      have HSEE := Lib.hid hsee
      have HBE := Lib.hid hB5
      clear hsee x0 x1 x2 x3 hB5
      cases hk5 : (e.kind == 5) with
      | false =>
        have ht := HTN.out (by simpa using hk5)
        have hall2 := Lib.hid (show (List.range (k + 1)).all (fairAt s L) = true by rw [HFS.out, hall.out, ht]; rfl)
        clear ht
        refine wp_region_all (S := Ext W5) (by kernel_rfl) (by kernel_rfl) (Ext.refl W5).drew (fun K hK => ?_); (repeat (first | (apply hO_and (p := false) (q := true); (· rfl); (· rfl); (· rfl); (· rfl); simp only [Act.put, List.setIfInBounds_toArray, List.set_cons_zero, List.set_cons_succ]) | (apply hO_or (p := true) (q := true); (· rfl); (· rfl); (· rfl); (· rfl); simp only [Act.put, List.setIfInBounds_toArray, List.set_cons_zero, List.set_cons_succ]) | (apply hO_and; (· rfl); (· rfl); (· rfl); (· rfl); simp only [Act.put, List.setIfInBounds_toArray, List.set_cons_zero, List.set_cons_succ]) | (apply hO_or; (· rfl); (· rfl); (· rfl); (· rfl); simp only [Act.put, List.setIfInBounds_toArray, List.set_cons_zero, List.set_cons_succ]) | (apply hO_off; (· rfl); (· rfl); simp only [Act.put, List.setIfInBounds_toArray, List.set_cons_zero, List.set_cons_succ]) | (apply hO_un; (· rfl); (· rfl); simp only [Act.put, List.setIfInBounds_toArray, List.set_cons_zero, List.set_cons_succ]) | (apply hO_val; (· intro w hS; go_simp; with_reducible rfl); (· rfl); simp only [Act.put, List.setIfInBounds_toArray, List.set_cons_zero, List.set_cons_succ]) | (apply hO_call; (· rfl); (· intro w hS; go_simp; exact ⟨rfl, rfl⟩); (· intro w hS; fail); simp only [Act.put, List.setIfInBounds_toArray, List.set_cons_zero, List.set_cons_succ]) | (apply hO_if; (· rfl); (· rfl); (· intro hif w hS; go_simp; with_reducible rfl); simp only [Act.put, List.setIfInBounds_toArray, List.set_cons_zero, List.set_cons_succ]) | (apply hO_ifcall; (· rfl); (· rfl); (· intro hif w hS; go_simp; exact ⟨rfl, rfl⟩); (· intro hif w hS; fail); simp only [Act.put, List.setIfInBounds_toArray, List.set_cons_zero, List.set_cons_succ]))); refine hO_nil ?_; refine hK _ ?_; clear hK K
        intro w6 hx6
        have hc6 := (HBE.out.ext hx6).cell
        clear hce0 hcs0 hce hcs
        go_wp2_with (fail)
        refine (HSEE.out w6 hx6).mono ?_
        rintro _ w7 ⟨rfl, hW7, hC7⟩
        have hX7 : Ext w w7 := (hXk.trans (hX5.trans hx6)).chg hC7 (fun q h => by rcases h with rfl | rfl <;> omega)
        have hB7 := (hBk.ext (hX5.trans hx6)).chg hC7 (fun h => by rcases h with h | h <;> omega)
        clear hc6
        go_wp2_with (fail)
        exact ⟨⟨k + 1, hlt, rfl, by rw [HSN.out]; exact hW7, hall2, hB7, hX7⟩, by simp [intOf]; omega⟩
      | true =>
        obtain ⟨tick, kind, task, nn⟩ := e
        dsimp only at *
        have HK5 := Lib.hid (eq_of_beq hk5)
        obtain ⟨h1, h2⟩ := HPIN.out HK5.out
        obtain ⟨i, rfl⟩ : ∃ i : Nat, task = (i : Int) := ⟨task.toNat, by omega⟩
        have hi : i < s.tasks.length := by omega
        have hl0 : decide ((i : Int) < 0) = false := decide_eq_false (by omega)
        have hl1 : decide ((s.tasks.length : Int) ≤ i) = false := decide_eq_false (by omega)
        obtain ⟨bt, ot, rt, rfl, hat⟩ := (HV.out.ext (hXk.trans hX5)).at hi
        obtain ⟨t0, t1, t2, t3, t4, t5, t6, t7, t8⟩ := hat.under
        obtain ⟨Ar, cr, rfl⟩ := hat.row
        have hti : s.tk i = s.tasks[i] := tk_in s hi
        have hqi := HQ.out i hi
        rw [hti] at hqi
        have hfa := HTK.out HK5.out h1 h2
        rw [Int.toNat_natCast, hti] at hfa
        generalize s.tasks[i] = t at *
        have hfair := fun w' (hx : Ext W5 w') => callE' hx (fair_au _ _ _ k P t (.slice Ar t.regs.length cr) ⟨tick, kind, i, nn⟩ _ R w' (hWk.ext (hX5.trans hx)) (HDR.out.ext (hXk.trans (hX5.trans hx))) HIN2.out h1 HNEG.out hqi HOLD.out)
        generalize fairX t P ⟨tick, kind, i, nn⟩ R = fb at hfa hfair
        have HFA := Lib.hid hfa
        unfold tskA evA at hfair
        have hw1 : IntKind.i64.wrap ((k : Int) + 1) = ((k + 1 : Nat) : Int) := by rw [IntKind.wrap_i64]; omega
        have hk1 : k + 1 ≤ L.length := hlt
        clear hfa hat hti hqi
        refine wp_region_all (S := Ext W5) (by kernel_rfl) (by kernel_rfl) (Ext.refl W5).drew (fun K hK => ?_); (repeat (first | (apply hO_and (p := false) (q := true); (· rfl); (· rfl); (· rfl); (· rfl); simp only [Act.put, List.setIfInBounds_toArray, List.set_cons_zero, List.set_cons_succ]) | (apply hO_or (p := true) (q := true); (· rfl); (· rfl); (· rfl); (· rfl); simp only [Act.put, List.setIfInBounds_toArray, List.set_cons_zero, List.set_cons_succ]) | (apply hO_and; (· rfl); (· rfl); (· rfl); (· rfl); simp only [Act.put, List.setIfInBounds_toArray, List.set_cons_zero, List.set_cons_succ]) | (apply hO_or; (· rfl); (· rfl); (· rfl); (· rfl); simp only [Act.put, List.setIfInBounds_toArray, List.set_cons_zero, List.set_cons_succ]) | (apply hO_off; (· rfl); (· rfl); simp only [Act.put, List.setIfInBounds_toArray, List.set_cons_zero, List.set_cons_succ]) | (apply hO_un; (· rfl); (· rfl); simp only [Act.put, List.setIfInBounds_toArray, List.set_cons_zero, List.set_cons_succ]) | (apply hO_val; (· intro w hS; go_simp; with_reducible rfl); (· rfl); simp only [Act.put, List.setIfInBounds_toArray, List.set_cons_zero, List.set_cons_succ]) | (apply hO_call; (· rfl); (· intro w hS; go_simp; exact ⟨rfl, rfl⟩); (· intro w hS; exact hfair _ hS); simp only [Act.put, List.setIfInBounds_toArray, List.set_cons_zero, List.set_cons_succ]) | (apply hO_if; (· rfl); (· rfl); (· intro hif w hS; go_simp; with_reducible rfl); simp only [Act.put, List.setIfInBounds_toArray, List.set_cons_zero, List.set_cons_succ]) | (apply hO_ifcall; (· rfl); (· rfl); (· intro hif w hS; go_simp; exact ⟨rfl, rfl⟩); (· intro hif w hS; exact hfair _ hS); simp only [Act.put, List.setIfInBounds_toArray, List.set_cons_zero, List.set_cons_succ]))); refine hO_nil ?_; refine hK _ ?_; clear hK K
        intro w6 hx6
        clear hfair t0 t1 t2 t3 t4 t5 t6 t7 t8
        cases fb with
        | false =>
          have hres := HNO.out HFA.out
          rw [HR.out] at hres
          subst hres
          go_wp2_with (fail)
          go_ret
          exact ⟨rfl, hXk.trans (hX5.trans hx6)⟩
        | true =>
          have hall2 := Lib.hid (show (List.range (k + 1)).all (fairAt s L) = true by rw [HFS.out, hall.out, HFA.out]; rfl)
          have hc6 := (HBE.out.ext hx6).cell
          clear hce0 hcs0 hce hcs
          go_wp2_with (fail)
          refine (HSEE.out w6 hx6).mono ?_
          rintro _ w7 ⟨rfl, hW7, hC7⟩
          have hX7 : Ext w w7 := (hXk.trans (hX5.trans hx6)).chg hC7 (fun q h => by rcases h with rfl | rfl <;> omega)
          have hB7 := (hBk.ext (hX5.trans hx6)).chg hC7 (fun h => by rcases h with h | h <;> omega)
          clear hc6
          go_wp2_with (fail)
          exact ⟨⟨k + 1, hlt, rfl, by rw [HSN.out]; exact hW7, hall2, hB7, hX7⟩, by simp [intOf]; omega⟩
    · have hke : k = L.length := by omega
      subst hke
      have hres : res = true := by rw [← HR.out]; exact hall.out
      subst hres
      go_wp2_with (fail)
      go_ret
      exact ⟨rfl, hXk⟩
end Go.Proofs.Ytlaflbepidkmnaa
/- AuR -/
namespace Go.Proofs.Ytlaflbepidkmnaa
open Go.RowKit
attribute [local go_sem] setCell_twice ByteArray.toList_eq str_list Ext.alloc Ext.drew
set_option linter.unusedSimpArgs false
set_option linter.unusedVariables false
set_option maxRecDepth 100000
set_option maxHeartbeats 1600000
attribute [local irreducible] Calls

abbrev nilV : Value := .slice none 0 0
def enc1 (v : Value) : List Value := [v]
def tickL (L : List Ev) (t : Nat) : List Ev := L.filter fun e => decide (e.tick = (t : Int))
theorem tickL_snoc (L : List Ev) (e : Ev) (t : Nat) : tickL (L ++ [e]) t = if e.tick = (t : Int) then tickL L t ++ [e] else tickL L t := by
  unfold tickL
  rw [List.filter_append]
  by_cases h : e.tick = (t : Int)
  · rw [if_pos h]; simp [h]
  · rw [if_neg h]; simp [h]
def evIn0 (e : Ev) : Prop := -1099511627776 ≤ e.tick ∧ e.tick ≤ 1099511627776
structure TkI (w : World) (B gO : Nat) (vs : List Value) (L : List Ev) (n : Nat) : Prop where
  row : RowBk enc1 w gO 28 vs
  len : vs.length = n
  each : ∀ t, t < n → OwnL encEv w B 60 4 (vs.getD t nilV) (tickL L t)
  sep : ∀ t t', t < n → t' < n → t ≠ t' → ∀ q, (vs.getD t nilV).ownBlock = some q → (vs.getD t' nilV).ownBlock ≠ some q
theorem TkI.ext {w w' : World} {B gO : Nat} {vs : List Value} {L : List Ev} {n : Nat} (h : TkI w B gO vs L n) (hx : Ext w w') : TkI w' B gO vs L n :=
  ⟨h.row.ext hx, h.len, fun t ht => OwnL.below (h.each t ht) hx.below, h.sep⟩
def TkS (gO : Nat) (vs : List Value) (ge : Nat) (cs : Array Value) (w : World) : Prop := RowBk enc1 w gO 28 vs ∧ Blk w ge cs 60
theorem TkS.ext {gO : Nat} {vs : List Value} {ge : Nat} {cs : Array Value} {w w' : World} (h : TkS gO vs ge cs w) (hx : Ext w w') : TkS gO vs ge cs w' := ⟨h.1.ext hx, h.2.ext hx⟩
theorem row1_at {w : World} {g : Nat} {t : TypeId} {vs : List Value} (h : RowBk enc1 w g t vs) {i : Nat} (hi : i < vs.length) : w.cell? ⟨g, i, none⟩ = some (vs.getD i nilV) := by
  have := h.at (size := 1) (fun _ => rfl) (i := i) (j := 0) hi (by decide)
  rw [Nat.mul_one, Nat.add_zero] at this
  rw [this, getD_at hi]
  rfl
theorem row1_set {w : World} {g : Nat} {t : TypeId} {vs : List Value} (h : RowBk enc1 w g t vs) (i : Nat) (u : Value) : RowBk enc1 (w.setCell ⟨g, i, none⟩ u) g t (vs.set i u) := by
  have := h.set (size := 1) (fun _ => rfl) (i := i) (j := 0) (u := u) (x' := u) (by decide) (fun _ => rfl)
  rw [Nat.mul_one, Nat.add_zero] at this
  exact this
theorem TkI.push {w0 w w2 w3 w4 : World} {B gO t n : Nat} {vs : List Value} {L : List Ev} {e : Ev} {v3 : Value} (h : TkI w B gO vs L n) (ht : t < n) (he : e.tick = (t : Int)) (hx : Ext w w2)
    (hown : OwnL encEv w3 B 60 4 v3 (tickL L t ++ [e])) (hg : w2.grownBy w3 (vs.getD t nilV).ownBlock) (hloc : v3.ownBlock = (vs.getD t nilV).ownBlock ∨ v3.ownBlock = some w2.heap.size) (hx4 : Ext w3 w4) :
    TkI (w4.setCell ⟨gO, t, none⟩ v3) B gO (vs.set t v3) (L ++ [e]) n := by
  have h2 := h.ext hx
  have hl := h.len
  have hrow3 : RowBk enc1 w3 gO 28 vs := Blk.grown h2.row hg (fun e => by
    obtain ⟨cs, hB⟩ := OwnL.block (h2.each t ht) e
    have := (Blk.type hB (show Blk w2 gO _ 28 from h2.row)).1
    exact absurd this (by decide))
  have hgd : ∀ t', (vs.set t v3).getD t' nilV = if t = t' then v3 else vs.getD t' nilV := fun t' => getD_set (by omega)
  have hlt : ∀ t', t' < n → ∀ q, (vs.getD t' nilV).ownBlock = some q → q < w2.heap.size := fun t' ht' q hq => (OwnL.lt (h2.each t' ht') q hq).2
  refine ⟨row1_set (hrow3.ext hx4) t v3, by rw [List.length_set]; exact hl, fun t' ht' => ?_, fun a b ha hb hne q hq => ?_⟩
  · rw [hgd, tickL_snoc]
    have hB4 : Blk w4 gO _ 28 := hrow3.ext hx4
    by_cases ett : t = t'
    · subst ett
      rw [if_pos rfl, if_pos he]
      have := OwnL.below hown hx4.below
      exact OwnL.set this (a := ⟨gO, t, none⟩) (own_ne_blk this hB4 (by decide)) v3
    · rw [if_neg ett, if_neg (by omega)]
      have h3 := OwnL.grown (h2.each t' ht') hg (fun k hk e => h.sep t' t ht' ht (fun e => ett e.symm) k hk e)
      have h4 := OwnL.below h3 hx4.below
      exact OwnL.set h4 (a := ⟨gO, t, none⟩) (own_ne_blk h4 hB4 (by decide)) v3
  · rw [hgd] at hq ⊢
    by_cases ea : t = a
    · rw [if_pos ea] at hq
      rw [if_neg (by omega)]
      intro hq2
      rcases hloc with h5 | h5
      · exact h.sep t b ht hb (by omega) q (h5.symm.trans hq) hq2
      · rw [h5] at hq
        have := hlt b hb q hq2
        have := Option.some.inj hq
        omega
    · rw [if_neg ea] at hq
      by_cases eb : t = b
      · rw [if_pos eb]
        intro hq2
        rcases hloc with h5 | h5
        · exact h.sep a t ha ht (by omega) q hq (h5.symm.trans hq2)
        · rw [h5] at hq2
          have := hlt a ha q hq
          have := Option.some.inj hq2
          omega
      · rw [if_neg eb]
        exact h.sep a b ha hb hne q hq
theorem TkI.skip {w : World} {B gO n : Nat} {vs : List Value} {L : List Ev} {e : Ev} (h : TkI w B gO vs L n) (he : ∀ t, t < n → e.tick ≠ (t : Int)) : TkI w B gO vs (L ++ [e]) n :=
  ⟨h.row, h.len, fun t ht => by rw [tickL_snoc, if_neg (he t ht)]; exact h.each t ht, h.sep⟩
theorem infoEvs1 : (Try.prog.info? 28).map (fun i => (i.zero, i.size, i.bytes)) = some (some (.slice none 0 0), 1, 24) := by kernel_rfl
theorem make_evs {n : Nat} (h : n ≤ 1000) (w : World) : (Instr.makeSlice 68 (.int .i64 n) (.int .i64 n)).run Try.prog w = .ok (.slice (some ⟨w.heap.size, 0, none⟩) n n) (w.alloc (.cells ((List.replicate n nilV).flatMap enc1).toArray 28)) := by
  obtain ⟨i, hi, hz0, hz1, hz2⟩ := info_parts infoEvs1
  have := run_make w 68 28 i (.slice none 0 0) Try.underlying68 hi hz0 .i64 .i64 n n (by omega) (Int.le_refl _) (by rw [hz2]; omega) (by omega)
  rw [hz1, Int.toNat_natCast, Nat.mul_one] at this
  have hf : ((List.replicate n nilV).flatMap enc1).toArray = Array.replicate n nilV := by
    refine Array.ext' ?_
    rw [Array.toList_replicate]
    show (List.replicate n nilV).flatMap enc1 = _
    clear this h hi hz0 hz1 hz2
    induction n with
    | zero => rfl
    | succ n ih => rw [List.replicate_succ, List.flatMap_cons, ih]; rfl
  rw [this, hf]
  have e : madeCells (.slice none 0 0 : Value).cells n = Array.replicate n (.slice none 0 0) := by
    refine Array.ext' ?_
    show (madeCells #[(.slice none 0 0 : Value)] n).toList = _
    rw [toList_madeCells_one]
    simp
  rw [e]
/-- events of a tick, at a place -/
def EvsR (w : World) (b o : Nat) (xs : List Ev) : Prop := ∃ r, w.cell? ⟨b, o, none⟩ = some r ∧ Evs w r xs
theorem EvsR.ext {w w' : World} {b o : Nat} {xs : List Ev} (h : EvsR w b o xs) (hx : Ext w w') : EvsR w' b o xs := by
  obtain ⟨r, h1, h2⟩ := h
  exact ⟨r, hx.cell h1, h2.ext hx⟩
theorem TkI.read {w : World} {B gO n : Nat} {vs : List Value} {L : List Ev} (h : TkI w B gO vs L n) (hn : n ≤ 1000) : SlR EvsR 1 Any w (.slice (some ⟨gO, 0, none⟩) n n) ((List.range n).map (tickL L)) := by
  refine ⟨_, _, by rw [List.length_map, List.length_range], by rw [List.length_map, List.length_range]; exact Nat.le_refl _, by unfold maxLen; omega, fun _ => ⟨gO, 0, rfl, trivial, fun i hi => ?_⟩⟩
  have hi' : i < n := by simpa using hi
  have hl := h.len
  rw [List.getElem_map, List.getElem_range, Nat.zero_add, Nat.mul_one]
  exact ⟨_, row1_at h.row (by omega), (h.each i hi').evs⟩
theorem ticks_au (va : Value) (L : List Ev) (n : Nat) (w : World) (ha : Evs w va L) (hn : n ≤ 1000) (hl : L.length ≤ 1000000) (hin : ∀ e ∈ L, evIn0 e) :
    Calls Try.prog 28 #[va, .int .i64 n] w fun r w' => ∃ v, r = .returned v ∧ SlR EvsR 1 Any w' v ((List.range n).map (tickL L)) ∧ Ext w w' := by
  obtain ⟨Ae, ce, rfl, hce1, hce2⟩ := ha.form
  unfold maxLen at hce2
  have hmk := make_evs hn
  have hmx : max (n : Int) 0 = n := by omega
  have HE := Lib.hid ha
  have HIN := Lib.hid hin
  clear ha hin
  go_enter Try.func28, Try.ntmps28
  go_upto_region 2 with (fail)
  generalize hW : World.alloc _ (.cells _ 28) = W
  have hX : Ext w W := by rw [← hW]; exact (Ext.refl w).alloc _
  have hT : TkI W w.heap.size w.heap.size (List.replicate n nilV) [] n := by
    have hg : ∀ t, (List.replicate n nilV).getD t nilV = nilV := fun t => by
      simp only [List.getD, List.getElem?_replicate]
      split <;> rfl
    refine ⟨by rw [← hW]; exact Blk.new _ _ _, List.length_replicate, fun t _ => ?_, fun t t' _ _ _ q hq => ?_⟩
    · rw [hg]; exact OwnL.nil
    · rw [hg] at hq; cases hq
  clear hW hmk
  have HX := Lib.hid hX
  have HT := Lib.hid hT
  have hgs := hX.size
  clear hX hT
  go_wp2_with (fail)
  go_loopw [7, 13] (fun _ i wr => ∃ (k : Nat) (vs : List Value), k ≤ L.length ∧ i = .int .i64 k ∧ TkI wr w.heap.size w.heap.size vs (L.take k) n ∧ Ext w wr) (fun _ i _ => L.length - (intOf i).toNat)
  case atStart => exact ⟨0, _, Nat.zero_le _, rfl, HT.out, HX.out⟩
  case round =>
    obtain ⟨k, vs, hk, rfl, hTk, hXk⟩ := hrel
    by_cases hlt : k < L.length
    · have hin := HIN.out _ (List.getElem_mem hlt)
      have hsn : L.take (k + 1) = L.take k ++ [L[k]] := List.take_succ_eq_append_getElem hlt
      have hpl : (L.take k).length ≤ 1000000 := by rw [List.length_take]; omega
      obtain ⟨b, o, rfl, hx⟩ := HE.out.at hlt
      obtain ⟨x0, x1, x2, x3⟩ := hx wr hXk
      rw [evAt_in hlt] at x0 x1 x2 x3
      have HSN := Lib.hid hsn
      have HPL := Lib.hid hpl
      clear hsn hpl hx
      generalize L[k] = e at *
      generalize hPk : L.take k = P at *
      clear hPk
      go_upto_region 5 with (fail)
      have hX5 := (Ext.refl wr).alloc (.cells #[.int .i64 e.tick, .int .i64 e.kind, .int .i64 e.task, .int .i64 e.n] 60)
      have hB5 := Blk.new wr #[.int .i64 e.tick, .int .i64 e.kind, .int .i64 e.task, .int .i64 e.n] 60
      generalize wr.alloc _ = W5 at hX5 hB5 ⊢
      have hrl : ∀ t, t < n → ∀ q, (vs.getD t nilV).ownBlock = some q → q < wr.heap.size := fun t ht q hq => (OwnL.lt (hTk.each t ht) q hq).2
      generalize wr.heap.size = ge at hB5 hrl ⊢
      have hce0 := hB5.cell
      have HRL := Lib.hid hrl
      have HBE := Lib.hid hB5
      have HXR := Lib.hid (hXk.trans hX5)
      have HTK := Lib.hid (hTk.ext hX5)
      clear x0 x1 x2 x3 hB5 hTk hX5 hXk hrl
      cases h0 : decide (0 ≤ e.tick) with
      | false =>
        have hnx := HTK.out.skip (e := e) (fun t _ => by have : e.tick < 0 := by simpa using h0
                                                         omega)
        rw [← HSN.out] at hnx
        have HNX := Lib.hid hnx
        clear hnx
        go_wp2_with (fail)
        exact ⟨⟨k + 1, vs, hlt, rfl, HNX.out, HXR.out⟩, by simp [intOf]; omega⟩
      | true =>
        cases h1 : decide (e.tick < (n : Int)) with
        | false =>
          have hnx := HTK.out.skip (e := e) (fun t ht => by have : (n : Int) ≤ e.tick := by simpa using h1
                                                            omega)
          rw [← HSN.out] at hnx
          have HNX := Lib.hid hnx
          clear hnx
          go_wp2_with (fail)
          exact ⟨⟨k + 1, vs, hlt, rfl, HNX.out, HXR.out⟩, by simp [intOf]; omega⟩
        | true =>
          obtain ⟨tick, kind, task, nn⟩ := e
          dsimp only at *
          have h0' : 0 ≤ tick := of_decide_eq_true h0
          have h1' : tick < (n : Int) := of_decide_eq_true h1
          obtain ⟨t, rfl⟩ : ∃ t : Nat, tick = (t : Int) := ⟨tick.toNat, by omega⟩
          have htn : t < n := by omega
          clear h0 h1 h0' h1'
          have hvl : t < vs.length := by have := HTK.out.len; omega
          have hOt := HTK.out.each t htn
          obtain ⟨At, ct, hvt, _, _⟩ := OwnL.form hOt
          have hTl : (tickL P t).length ≤ 1000000 := Nat.le_trans (List.length_filter_le _ _) HPL.out
          go_upto_region 6 with (fail)
          have hS0 : TkS w.heap.size vs ge #[.int .i64 t, .int .i64 kind, .int .i64 task, .int .i64 nn] W5 := ⟨HTK.out.row, HBE.out⟩
          have hcS : ∀ w', TkS w.heap.size vs ge #[.int .i64 t, .int .i64 kind, .int .i64 task, .int .i64 nn] w' → w'.cell? ⟨w.heap.size, t, none⟩ = some (.slice At (tickL P t).length ct) := fun w' h => by rw [row1_at h.1 hvl, hvt]
          have hcE : ∀ w', TkS w.heap.size vs ge #[.int .i64 t, .int .i64 kind, .int .i64 task, .int .i64 nn] w' → ∀ j, w'.cell? ⟨ge, j, none⟩ = #[.int .i64 t, .int .i64 kind, .int .i64 task, .int .i64 nn][j]? := fun w' h => h.2.cell
          clear hce0
          refine wp_region_mixZ (T := [9, 10, 12]) (z := 12) (S := TkS w.heap.size vs ge #[.int .i64 t, .int .i64 kind, .int .i64 task, .int .i64 nn]) (W := W5) (fun _ _ h hx => h.ext hx) (by kernel_rfl) (by kernel_rfl) (by kernel_rfl) (Ext.refl W5).drew hS0 (fun _ _ h => h) (fun K hK => ?_)
          (repeat (first | (refine hX_skip ?_ ?_; (· rfl)) | (apply hX_and; (· rfl); (· rfl); (· rfl); (· rfl); (· rfl); simp only [Act.put, List.setIfInBounds_toArray, List.set_cons_zero, List.set_cons_succ]) | (apply hX_or; (· rfl); (· rfl); (· rfl); (· rfl); (· rfl); simp only [Act.put, List.setIfInBounds_toArray, List.set_cons_zero, List.set_cons_succ]) | (apply hX_off; (· rfl); (· rfl); (· rfl); simp only [Act.put, List.setIfInBounds_toArray, List.set_cons_zero, List.set_cons_succ]) | (apply hX_val; (· rfl); (· intro w hS; go_simp; with_reducible rfl); (· rfl); simp only [Act.put, List.setIfInBounds_toArray, List.set_cons_zero, List.set_cons_succ]) | (apply hX_call; (· rfl); (· rfl); (· intro w hS; go_simp; exact ⟨rfl, rfl⟩); (· intro w hS; fail); simp only [Act.put, List.setIfInBounds_toArray, List.set_cons_zero, List.set_cons_succ]) | (apply hX_if; (· rfl); (· rfl); (· rfl); (· intro hif w hS; go_simp; with_reducible rfl); simp only [Act.put, List.setIfInBounds_toArray, List.set_cons_zero, List.set_cons_succ]) | (apply hX_ifcall; (· rfl); (· rfl); (· rfl); (· intro hif w hS; go_simp; exact ⟨rfl, rfl⟩); (· intro hif w hS; fail); simp only [Act.put, List.setIfInBounds_toArray, List.set_cons_zero, List.set_cons_succ]))); refine hX_nil ?_
          refine hK _ ?_
          clear hK K
          refine wpZ_want (i := 9) (by kernel_rfl) rfl (by simp [Region.wanted, yielded]) ?_
          intro w1 hx1 K hK
          go_simp
          have hE1 := hx1.alloc (.cells #[.int .i64 t, .int .i64 kind, .int .i64 task, .int .i64 nn] 60)
          have hN1 := Blk.new w1 #[.int .i64 t, .int .i64 kind, .int .i64 task, .int .i64 nn] 60
          refine hK _ _ (hS0.ext hE1) ?_
          clear hK K hx1
          generalize w1.heap.size = g1 at hN1 ⊢
          generalize w1.alloc _ = W1 at hN1 hE1 ⊢
          refine wpZ_want (i := 10) (by kernel_rfl) rfl (by simp [Region.wanted, yielded]) ?_
          intro w2 hx2 K hK
          have hE2 := hE1.trans hx2
          refine wp_push _ _ 28 rfl w.heap.size 60 Try.underlying28 infoEv rfl (by decide) (by decide) encEv (tickL P t) _ rfl (by rw [← hvt]; exact OwnL.below hOt hE2.below) ⟨t, kind, task, nn⟩ g1 #[.int .i64 t, .int .i64 kind, .int .i64 task, .int .i64 nn] 60 rfl (hN1.ext hx2) rfl rfl (encEv_one _) (by omega) (by have := hE2.size; have := HXR.out.size; omega) ?_
          intro v3 w3 hown3 hg3 hloc3 _
          rw [← hvt] at hg3 hloc3
          have hg3 : w2.grownBy w3 (vs.getD t nilV).ownBlock := hg3
          have hrow3 : RowBk enc1 w3 w.heap.size 28 vs := Blk.grown (HTK.out.ext hE2).row hg3 (fun e => by
            obtain ⟨cs, hB⟩ := OwnL.block (OwnL.below hOt hE2.below) e
            have := (Blk.type hB (show Blk w2 w.heap.size _ 28 from (HTK.out.ext hE2).row)).1
            exact absurd this (by decide))
          have hne3 : (vs.getD t nilV).ownBlock ≠ some ge := fun e => by have := HRL.out t htn ge e; omega
          have hev3 := (HBE.out.ext hE2).grown hg3 hne3
          refine hK _ _ ⟨hrow3, hev3⟩ ?_
          clear hK K
          refine wpZ_last (by kernel_rfl) rfl (by simp [Region.wanted, yielded]) ?_
          intro w4 hx4 K hK
          have hrow4 := hrow3.ext hx4
          have hr4 := row1_at hrow4 hvl
          have hf4 := fun j => hrow4.free j
          have hpush := HTK.out.push (w0 := w) (e := ⟨t, kind, task, nn⟩) htn rfl hE2 hown3 hg3 hloc3 hx4
          rw [← HSN.out] at hpush
          have hXe : Ext w (w4.setCell ⟨w.heap.size, t, none⟩ v3) := (((HXR.out.trans hE2).grown hg3 (fun q hq => (OwnL.lt hOt q hq).1)).trans hx4).set (Nat.le_refl _) v3
          obtain ⟨A3, c3, rfl⟩ := own_slice hown3
          rw [List.length_append, List.length_singleton] at hpush hXe
          have HPU := Lib.hid hpush
          have HXE := Lib.hid hXe
          rw [hvt] at hr4
          clear hrow4 hpush hXe hown3 hg3 hloc3 hrow3 hev3 hcS hcE hx4 hx2 hE1 hE2 hN1
          go_simp
          refine hK _ _ ?_
          clear hK K hr4 hf4
          refine wpZ_done (by kernel_rfl) (fun W9 hX9 => ?_) _
          have hT9 := HPU.out.ext hX9
          have hX9' := HXE.out.trans hX9
          clear hX9
          go_wp2_with (fail)
          exact ⟨⟨k + 1, _, hlt, rfl, hT9, hX9'⟩, by simp [intOf]; omega⟩
    · have hke : k = L.length := by omega
      subst hke
      rw [List.take_length] at hTk
      have hrd := hTk.read hn
      clear hTk
      go_wp2_with (fail)
      go_ret
      exact ⟨_, rfl, hrd, hXk⟩
end Go.Proofs.Ytlaflbepidkmnaa
/- AuR2 -/
namespace Go.Proofs.Ytlaflbepidkmnaa
open Go.RowKit
attribute [local go_sem] setCell_twice ByteArray.toList_eq str_list Ext.alloc Ext.drew
set_option linter.unusedSimpArgs false
set_option linter.unusedVariables false
set_option maxRecDepth 100000
set_option maxHeartbeats 1600000
attribute [local irreducible] Calls

def ranN (now : Int) (x : List Ev) : Int := x.foldl runsA now
def ranE (now : Int) (x : List Ev) : Int := if x.any endB = true then -1 else ranN now x
def ranF (l : List (List Ev)) : List Int × Int := l.foldl (fun p x => (p.1 ++ [ranN p.2 x], ranE p.2 x)) ([], -1)
theorem ranF_snoc (l : List (List Ev)) (x : List Ev) : ranF (l ++ [x]) = ((ranF l).1 ++ [ranN (ranF l).2 x], ranE (ranF l).2 x) := by
  unfold ranF
  rw [List.foldl_append]; rfl
theorem ranF_len (l : List (List Ev)) : (ranF l).1.length = l.length := by
  have : ∀ n, n ≤ l.length → (ranF (l.take n)).1.length = n := by
    intro n
    induction n with
    | zero => intro _; rfl
    | succ n ih =>
      intro hn
      rw [List.take_succ_eq_append_getElem (by omega), ranF_snoc, List.length_append, ih (by omega)]; rfl
  have := this l.length (Nat.le_refl _)
  rwa [List.take_length] at this
theorem callEnds (args : Array Value) (w : World) : (callFunc 26 args).run Try.prog w = .ok (.enter 26 args) w := by
  go_simp
theorem ran_au (va : Value) (L : List Ev) (n : Nat) (w : World) (ha : Evs w va L) (hn : n ≤ 1000) (hl : L.length ≤ 1000000) (hin : ∀ e ∈ L, evIn0 e) :
    Calls Try.prog 15 #[va, .int .i64 n] w fun r w' => ∃ v, r = .returned v ∧ OwnL encI w' w.heap.size 3 1 v (ranF ((List.range n).map (tickL L))).1 ∧ Ext w w' := by
  obtain ⟨Ae, ce, rfl, hce1, hce2⟩ := ha.form
  have HT := Lib.hid (ticks_au (.slice Ae L.length ce) L n w ha hn hl hin)
  have hTLen : ((List.range n).map (tickL L)).length = n := by simp
  clear ha hin
  go_enter Try.func15, Try.ntmps15
  go_wp2_with (fail)
  refine HT.out.mono ?_
  rintro _ W ⟨vt, rfl, hR, hX⟩
  generalize hMe : (List.range n).map (tickL L) = M at *
  have HME := Lib.hid hMe
  clear hMe
  obtain ⟨At, ct, rfl, htc1, htc2⟩ := SlR.form hR
  unfold maxLen at htc2
  have HR := Lib.hid hR
  have HM := Lib.hid hTLen
  clear hR hTLen
  go_wp2_with (fail)
  go_loopw [5, 6, 8, 10, 15] (fun v5 v6 _ _ v15 wr => ∃ (k : Nat) (now : Int), k ≤ M.length ∧ v15 = .int .i64 k ∧ v6 = .int .i64 now ∧ Hid ((ranF (M.take k)).2 = now) ∧ OwnL encI wr W.heap.size 3 1 v5 (ranF (M.take k)).1 ∧ Ext W wr) (fun _ _ _ _ v15 _ => M.length - (intOf v15).toNat)
  case atStart => exact ⟨0, -1, Nat.zero_le _, rfl, rfl, Lib.hid rfl, OwnL.nil, Ext.refl W⟩
  case round =>
    obtain ⟨k, now, hk, rfl, rfl, hnow, hO, hXk⟩ := hrel
    by_cases hlt : k < M.length
    · obtain ⟨b, o, rfl, r, hr, hEv⟩ := SlR.at HR.out hlt
      rw [Nat.mul_one] at hr
      have hr0 := hXk.cell hr
      obtain ⟨Ar, cr, rfl, hrc1, hrc2⟩ := hEv.form
      unfold maxLen at hrc2
      have HEV := Lib.hid hEv
      have hsn := ranF_snoc (M.take k) M[k]
      rw [← List.take_succ_eq_append_getElem hlt, hnow.out] at hsn
      have hln := ranF_len (M.take k)
      have hl2 : (ranF (M.take k)).1.length ≤ 1000 := by rw [hln, List.length_take]; have := HM.out; omega
      have HSN := Lib.hid hsn
      have HLN := Lib.hid hl2
      clear hr hEv hsn hln hl2
      generalize M[k] = x at *
      generalize (ranF (M.take k)).1 = out at *
      obtain ⟨Ao, co, rfl, _, _⟩ := OwnL.form hO
      have HO := Lib.hid hO
      clear hO
      go_wp2_with (fail)
      go_loopw [6, 10, 21] (fun v6 _ v21 w2 => ∃ (j : Nat) (n2 : Int), j ≤ x.length ∧ v21 = .int .i64 j ∧ v6 = .int .i64 n2 ∧ Hid (ranN now (x.take j) = n2) ∧ Ext wr w2) (fun _ _ v21 _ => x.length - (intOf v21).toNat)
      case atStart => exact ⟨0, now, Nat.zero_le _, rfl, rfl, Lib.hid rfl, Ext.refl wr⟩
      case round =>
        obtain ⟨j, n2, hj, rfl, rfl, hn2, hX2⟩ := hrel
        by_cases hjlt : j < x.length
        · obtain ⟨b3, o3, rfl, hxj⟩ := HEV.out.at hjlt
          obtain ⟨y0, y1, y2, y3⟩ := hxj wr (hXk.trans hX2)
          rw [evAt_in hjlt] at y0 y1 y2 y3
          have hs2 : ranN now (x.take (j + 1)) = runsA n2 x[j] := by
            rw [List.take_succ_eq_append_getElem hjlt]
            unfold ranN at hn2 ⊢
            rw [List.foldl_append, hn2.out]; rfl
          have HS2 := Lib.hid hs2
          clear hs2 hxj
          generalize x[j] = e at *
          go_upto_region 9 with (fail)
          have hX5 := (Ext.refl wr).alloc (.cells #[.int .i64 e.tick, .int .i64 e.kind, .int .i64 e.task, .int .i64 e.n] 60)
          have hB5 := Blk.new wr #[.int .i64 e.tick, .int .i64 e.kind, .int .i64 e.task, .int .i64 e.n] 60
          generalize wr.alloc _ = W5 at hX5 hB5 ⊢
          generalize wr.heap.size = ge at hB5 ⊢
          have hce0 := hB5.cell
          go_wp2_with (fail)
          refine (runs_au n2 e W5).mono ?_
          rintro _ w6 ⟨rfl, hX6⟩
          clear hce0
          go_wp2_with (fail)
          exact ⟨⟨j + 1, _, hjlt, rfl, rfl, HS2, hX2.trans (hX5.trans hX6)⟩, by simp [intOf]; omega⟩
        · have hje : j = x.length := by omega
          subst hje
          have hn3 := hn2.out
          rw [List.take_length] at hn3
          have HN3 := Lib.hid hn3
          have HO2 := Lib.hid (OwnL.below HO.out hX2.below)
          have hsz := (hXk.trans hX2).size
          clear hn3
          go_wp2_with (at_builtin; (refine wpList_push rfl _ _ 40 rfl W.heap.size 3 Try.underlying40 infoPI rfl (by decide) (by decide) encI out _ rfl (OwnL.alloc HO2.out _) n2 wr.heap.size #[.int .i64 n2] 3 rfl (Blk.new _ _ _) rfl rfl (by simp [encI, Value.oneCell']) ?_ ?_ ?_; (· have := HLN.out; omega); (· simp; omega); (intro v4 w4 hown4 hg4 hloc4 _)))
          have hX4 : Ext W w4 := ((hXk.trans hX2).alloc (.cells #[.int .i64 n2] 3)).grown hg4 (fun q hq => (OwnL.lt HO2.out q hq).1)
          obtain ⟨A4, c4, rfl⟩ := own_slice hown4
          rw [List.length_append, List.length_singleton] at hown4
          have hC := contains_ev (.slice Ar x.length cr) x 26 #[] endB w4 (HEV.out.ext hX4) callEnds (fun w' hx e _ => ends_au e w')
          have HC := Lib.hid hC
          have HOW := Lib.hid hown4
          clear hC hown4 hg4 hloc4
          go_wp2_with (fail)
          refine HC.out.mono ?_
          rintro _ w5 ⟨rfl, hX5⟩
          have hO5 := OwnL.below HOW.out hX5.below
          have hX45 := hX4.trans hX5
          have hsn := HSN.out
          rw [HN3.out] at hsn
          unfold ranE at hsn
          rw [HN3.out] at hsn
          cases hE : x.any endB with
          | true =>
            rw [hE, if_pos rfl] at hsn
            have HSN2 := Lib.hid hsn
            clear hsn
            go_wp2_with (fail)
            exact ⟨⟨k + 1, -1, hlt, rfl, rfl, by rw [HSN2.out]; exact Lib.hid rfl, by rw [HSN2.out]; exact hO5, hX45⟩, by simp [intOf]; omega⟩
          | false =>
            rw [hE, if_neg (by simp)] at hsn
            have HSN2 := Lib.hid hsn
            clear hsn
            go_wp2_with (fail)
            exact ⟨⟨k + 1, n2, hlt, rfl, rfl, by rw [HSN2.out]; exact Lib.hid rfl, by rw [HSN2.out]; exact hO5, hX45⟩, by simp [intOf]; omega⟩
    · have hke : k = M.length := by omega
      subst hke
      rw [List.take_length] at hO
      obtain ⟨Ao, co, rfl, _, _⟩ := OwnL.form hO
      have HO := Lib.hid hO
      clear hO
      go_wp2_with (fail)
      go_ret
      exact ⟨_, rfl, by rw [HME.out]; exact OwnL.lower HO.out hX.size, hX.trans hXk⟩
end Go.Proofs.Ytlaflbepidkmnaa
/- L27k -/
namespace Go.Proofs.Ytlaflbepidkmnaa
open Go.RowKit
attribute [local go_sem] setCell_twice ByteArray.toList_eq str_list Ext.alloc Ext.drew
set_option linter.unusedSimpArgs false
set_option linter.unusedVariables false
set_option maxRecDepth 100000
set_option maxHeartbeats 1600000
attribute [local irreducible] Calls
theorem ints_two' {w : World} {g : Nat} {x y : Int} {e : TypeId} (hB : Blk w g #[.int .i64 x, .int .i64 y] e) : Ints w (.slice (some ⟨g, 0, none⟩) 2 2) [x, y] := by
  refine ⟨_, _, rfl, Nat.le_refl _, by unfold maxLen; omega, fun _ => ⟨g, 0, rfl, fun i hi => ?_⟩⟩
  have hc := hB.cell
  have : i = 0 ∨ i = 1 := by simp at hi; omega
  rcases this with rfl | rfl
  · exact hc 0
  · exact hc 1
theorem known27_any (w : World) :
    Calls Try.prog 12 #[] w fun e w' => e = .returned (.bool true) ∧ Ext w w' := by
  have hR := fun W => ran_au (.slice none 0 0) [] 2 W (SlR.nil _ _ _ _) (by omega) (by simp) (fun e he => by cases he)
  have hq : ∀ i, i < kS25.tasks.length → 0 ≤ (kS25.tk i).q ∧ (kS25.tk i).q ≤ 10000 := fun i hi => by
    obtain rfl : i = 0 := by simp [kS25] at hi; exact hi
    decide
  have hF0 := fun v W (hv : Tasks W v kS25.tasks) => auFair_any kS25 v (.slice none 0 0) [] W hv hq (SlR.nil _ _ _ _) (by simp) (fun e he => by cases he) (fun e he => by cases he) (fun e he => by cases he) List.Pairwise.nil
  have hF1 := fun v va W (hv : Tasks W v kS25.tasks) (ha : Evs W va [⟨0, 5, 0, 0⟩]) => auFair_any kS25 v va [⟨0, 5, 0, 0⟩] W hv hq ha (by simp) (fun e he => by simp at he; subst he; unfold evIn; decide) (fun e he _ => by simp at he; subst he; decide) (fun e he h => by simp at he; subst he; cases h) (List.pairwise_singleton _ _)
  have e0 : fairB kS25 [] = true := by decide
  have e1 : fairB kS25 [⟨0, 5, 0, 0⟩] = false := by decide
  have e2 : (ranF ((List.range 2).map (tickL []))).1 = [-1, -1] := by decide
  rw [e2] at hR
  rw [e0] at hF0
  rw [e1] at hF1
  have HR := Lib.hid hR
  have HF0 := Lib.hid hF0
  have HF1 := Lib.hid hF1
  clear hR hF0 hF1 hq e0 e1 e2
  go_enter Try.func12, Try.ntmps12
  go_upto_region 2 with (fail)
  generalize hW : World.alloc _ (.cells _ 24) = W
  have hX : Ext w W := by rw [← hW]; exact ((((Ext.refl w).alloc _).alloc _).alloc _)
  have hI : Blk W w.heap.size #[.int .i64 2] 2 := by rw [← hW]; exact ((Blk.new _ _ _).alloc _).alloc _
  have hT : Blk W (w.heap.size + 1) #[.string (str [97]), .int .i64 5, .int .i64 5, .int .i64 0, .int .i64 0, .int .i64 0, .slice (some ⟨w.heap.size, 0, none⟩) 1 1, .int .u64 0, .int .u64 0] 34 := by rw [← hW]; exact (Blk.new_at _ _ _ _ (by simp)).alloc _
  have hS : Blk W (w.heap.size + 1 + 1) #[.int .i64 0, .slice (some ⟨w.heap.size + 1, 0, none⟩) 1 1] 24 := by rw [← hW]; exact Blk.new_at _ _ _ _ (by simp)
  have hv : Tasks W (.slice (some ⟨w.heap.size + 1, 0, none⟩) 1 1) kS25.tasks := tasks_one' (t := kt25) hT (ints_one' hI)
  have HV := Lib.hid hv
  have HS := Lib.hid hS
  clear hW hI hT hS hv
  go_wp2_with (fail)
  refine (HR.out W).mono ?_
  rintro _ w1 ⟨v1, rfl, hO1, hX1⟩
  obtain ⟨A1, c1, rfl, _, _⟩ := OwnL.form hO1
  have HO1 := Lib.hid hO1
  clear hO1
  go_wp2_with (fail)
  refine (ints2_any _ _ [-1, -1] [-1, -1] _ (RowP.ints (OwnL.alloc HO1.out _)) (ints_two' (Blk.new _ _ _))).mono ?_
  rintro _ w2 ⟨rfl, hb2⟩
  rw [decide_eq_true rfl]
  have hX2 : Ext W w2 := (hX1.alloc _).call hb2
  have hc2 := (HS.out.ext hX2).cell
  have hF2 := HF0.out _ w2 (HV.out.ext hX2)
  unfold setV at hF2
  have HF2 := Lib.hid hF2
  clear hF2
  go_wp2_with (fail)
  refine HF2.out.mono ?_
  rintro _ w3 ⟨rfl, hX3⟩
  have hX23 := hX2.trans hX3
  have hc3 := (HS.out.ext hX23).cell
  clear hc2
  have hF3 := fun va => HF1.out (.slice (some ⟨w.heap.size + 1, 0, none⟩) 1 1) va
  unfold setV at hF3
  have HF3 := Lib.hid hF3
  clear hF3
  go_wp2_with (fail)
  refine (HF3.out _ _ (HV.out.ext (hX23.alloc _)) (evs_blk' (L := [⟨0, 5, 0, 0⟩]) (Blk.new _ _ _) rfl (by decide))).mono ?_
  rintro _ w4 ⟨rfl, hX4⟩
  go_wp2_with (fail)
  go_ret
  exact ⟨rfl, (hX.trans (hX23.alloc _)).trans hX4⟩
end Go.Proofs.Ytlaflbepidkmnaa
/- Au6 -/
namespace Go.Proofs.Ytlaflbepidkmnaa
open Go.RowKit
attribute [local go_sem] setCell_twice ByteArray.toList_eq str_list Ext.alloc Ext.drew
set_option linter.unusedSimpArgs false
set_option linter.unusedVariables false
set_option maxRecDepth 100000
set_option maxHeartbeats 1600000
attribute [local irreducible] Calls

/-- what ends or renews the wait of task t -/
def waitB (t : Int) (x : Ev) : Bool := decide (x.task = t) && (endB x || decide (x.kind = 1))
def doneA (t : Int) (rest : List Ev) : Bool := decide (0 ≤ idxE (waitB t) rest) && endB (evAt rest (idxE (waitB t) rest).toNat)
def metAt (r : List Int) (L : List Ev) (n : Int) (i : Nat) : Bool :=
  if (evAt L i).kind = 1 then (decide (n < (evAt L i).tick + r.getD (evAt L i).task.toNat 0) || doneA (evAt L i).task (L.drop (i + 1)))
  else if endB (evAt L i) = true then decide ((evAt L i).n ≤ r.getD (evAt L i).task.toNat 0) else true
def metB (r : List Int) (L : List Ev) (n : Int) : Bool := (List.range L.length).all (metAt r L n)
theorem isMet1_au (x : Ev) (ge : Nat) (t : Int) (w : World) (he : w.cell? ⟨ge, 2, none⟩ = some (.int .i64 t)) :
    Calls Try.prog 47 #[evA x, .pointer (some ⟨ge, 0, none⟩)] w fun r w' => r = .returned (.bool (waitB t x)) ∧ Ext w w' := by
  obtain ⟨a, k, u, n⟩ := x
  unfold evA waitB
  dsimp only
  rw [show decide (u = t) = (u == t) from rfl, show decide (k = 1) = (k == 1) from rfl]
  go_enter Try.func47, Try.ntmps47
  go_upto_region 1 with (fail)
  have hX := (Ext.refl w).alloc (.cells #[.int .i64 a, .int .i64 k, .int .i64 u, .int .i64 n] 60)
  have hB := Blk.new w #[.int .i64 a, .int .i64 k, .int .i64 u, .int .i64 n] 60
  generalize w.alloc _ = W at hX hB ⊢
  have hc := hB.cell
  have he2 := hX.cell he
  have hEn := ends_au ⟨a, k, u, n⟩ W
  have HB := Lib.hid hB
  have HX := Lib.hid hX
  unfold evA at hEn
  dsimp only at hEn
  clear hX hB he
  cases ht : (u == t) with
  | false =>
    have HT := Lib.hid ht
    go_wp2_with (fail)
    go_ret
    exact ⟨by rw [HT.out]; rfl, HX.out⟩
  | true =>
    have HT := Lib.hid ht
    have HEN := Lib.hid hEn
    clear hEn
    go_wp2_with (fail)
    refine HEN.out.mono ?_
    rintro _ w2 ⟨rfl, hX2⟩
    have hc2 := (HB.out.ext hX2).cell
    clear hc he2
    cases hE : endB ⟨a, k, u, n⟩ with
    | true =>
      have HE := Lib.hid hE
      go_wp2_with (fail)
      go_ret
      exact ⟨by rw [HT.out, HE.out]; rfl, HX.out.trans hX2⟩
    | false =>
      have HE := Lib.hid hE
      cases h1 : (k == 1) with
      | true =>
        have H1 := Lib.hid h1
        go_wp2_with (fail)
        go_ret
        exact ⟨by rw [HT.out, HE.out, H1.out]; rfl, HX.out.trans hX2⟩
      | false =>
        have H1 := Lib.hid h1
        go_wp2_with (fail)
        go_ret
        exact ⟨by rw [HT.out, HE.out, H1.out]; rfl, HX.out.trans hX2⟩
theorem callIsMet1 (args : Array Value) (w : World) : (callFunc 47 args).run Try.prog w = .ok (.enter 47 args) w := by
  go_simp
theorem idx_lt {p : Ev → Bool} {L : List Ev} (h : 0 ≤ idxE p L) : (idxE p L).toNat < L.length := by
  unfold idxE at h ⊢
  cases hf : L.findIdx? p with
  | none => rw [hf] at h; simp at h
  | some i =>
    obtain ⟨hi, _⟩ := List.findIdx?_eq_some_iff_getElem.1 hf
    simpa using hi
theorem isMet_au (e : Ev) (r n : Int) (vb : Value) (rest : List Ev) (w : World) (hb : Evs w vb rest) (he : evIn e) (hr : 0 ≤ r ∧ r ≤ 1099511627776) :
    Calls Try.prog 27 #[evA e, .int .i64 r, vb, .int .i64 n] w fun x w' => x = .returned (.bool (decide (n < e.tick + r) || doneA e.task rest)) ∧ Ext w w' := by
  obtain ⟨A, c, rfl, hc1, hc2⟩ := hb.form
  unfold maxLen at hc2
  obtain ⟨a1, a2, a3, a4, a5, a6⟩ := he
  have hw1 : wrap64 (e.tick + r) = e.tick + r := by unfold wrap64; omega
  have hw2 : IntKind.i64.wrap (e.tick + r) = e.tick + r := by rw [IntKind.wrap_i64]; omega
  have HB := Lib.hid hb
  clear hb
  unfold evA doneA
  go_enter Try.func27, Try.ntmps27
  go_upto_region 1 with (fail)
  have hX := (Ext.refl w).alloc (.cells #[.int .i64 e.tick, .int .i64 e.kind, .int .i64 e.task, .int .i64 e.n] 60)
  have hBe := Blk.new w #[.int .i64 e.tick, .int .i64 e.kind, .int .i64 e.task, .int .i64 e.n] 60
  generalize w.alloc _ = W at hX hBe ⊢
  have hc := hBe.cell
  have hI := index_ev (.slice A rest.length c) rest 47 #[.pointer (some ⟨w.heap.size, 0, none⟩)] (waitB e.task) W (HB.out.ext hX) callIsMet1 (fun w' hx x _ => isMet1_au x _ e.task w' ((hBe.ext hx).cell 2))
  have HI := Lib.hid hI
  have HX := Lib.hid hX
  have hlt := idx_lt (p := waitB e.task) (L := rest)
  have HLT := Lib.hid hlt
  clear hI hX hlt
  cases hd : decide (n < e.tick + r) with
  | true =>
    have HD := Lib.hid hd
    go_wp2_with (fail)
    go_ret
    exact ⟨by rw [HD.out]; rfl, HX.out⟩
  | false =>
    have HD := Lib.hid hd
    generalize hidx : idxE (waitB e.task) rest = i at *
    have HID := Lib.hid hidx
    clear hidx
    go_wp2_with (fail)
    refine HI.out.mono ?_
    rintro _ w2 ⟨rfl, hX2⟩
    clear hc
    cases hi : decide (0 ≤ i) with
    | false =>
      have H0 := Lib.hid hi
      go_wp2_with (fail)
      go_ret
      exact ⟨by rw [HD.out, HID.out, H0.out]; rfl, HX.out.trans hX2⟩
    | true =>
      have H0 := Lib.hid hi
      have h3 := HLT.out (of_decide_eq_true hi)
      obtain ⟨j, rfl⟩ : ∃ j : Nat, i = (j : Int) := ⟨i.toNat, by have := of_decide_eq_true hi; omega⟩
      rw [Int.toNat_natCast] at h3
      obtain ⟨b, o, rfl, hx⟩ := HB.out.at h3
      obtain ⟨x0, x1, x2, x3⟩ := hx w2 (HX.out.trans hX2)
      clear hx
      generalize hex : evAt rest j = x at *
      have HEX := Lib.hid hex
      clear hex
      go_wp2_with (fail)
      refine (ends_au x w2).mono ?_
      rintro _ w3 ⟨rfl, hX3⟩
      go_wp2_with (fail)
      go_ret
      exact ⟨by rw [HD.out, HID.out, H0.out, Int.toNat_natCast, HEX.out]; rfl, HX.out.trans (hX2.trans hX3)⟩
end Go.Proofs.Ytlaflbepidkmnaa
/- Au7 -/
namespace Go.Proofs.Ytlaflbepidkmnaa
open Go.RowKit
attribute [local go_sem] setCell_twice ByteArray.toList_eq str_list Ext.alloc Ext.drew
set_option linter.unusedSimpArgs false
set_option linter.unusedVariables false
set_option maxRecDepth 100000
set_option maxHeartbeats 1600000
attribute [local irreducible] Calls

theorem metB_snoc {r : List Int} {L : List Ev} {n : Int} {k : Nat} : (List.range (k + 1)).all (metAt r L n) = ((List.range k).all (metAt r L n) && metAt r L n k) := by
  rw [List.range_succ, List.all_append]; simp
theorem metB_not {r : List Int} {L : List Ev} {n : Int} {k : Nat} (hk : k < L.length) (h : metAt r L n k = false) : metB r L n = false := by
  unfold metB
  rw [List.all_eq_false]
  exact ⟨k, List.mem_range.2 hk, by simp [h]⟩
/-- events of jobs are of tasks that there are -/
def jobIn (n : Nat) (L : List Ev) : Prop := ∀ e ∈ L, e.kind = 1 ∨ e.kind = 8 ∨ e.kind = 9 → 0 ≤ e.task ∧ e.task < n
theorem endB_iff {e : Ev} : endB e = true ↔ e.kind = 8 ∨ e.kind = 9 := by simp [endB]
theorem auMet_any (vr va : Value) (r : List Int) (L : List Ev) (n : Int) (w : World) (hr : Ints w vr r) (hrb : ∀ x ∈ r, 0 ≤ x ∧ x ≤ 1099511627776) (ha : Evs w va L) (hl : L.length ≤ 1000000) (hin : ∀ e ∈ L, evIn e) (hp : jobIn r.length L) :
    Calls Try.prog 13 #[vr, va, .int .i64 n] w fun x w' => x = .returned (.bool (metB r L n)) ∧ Ext w w' := by
  obtain ⟨Ae, ce, rfl, hce1, hce2⟩ := ha.form
  obtain ⟨Ar, cr, rfl, hcr1, hcr2, _⟩ := id hr
  unfold maxLen at hce2 hcr2
  obtain ⟨res, hres⟩ : ∃ res, metB r L n = res := ⟨_, rfl⟩
  rw [hres]
  have HR := Lib.hid hres
  have HI := Lib.hid hr
  have HE := Lib.hid ha
  have HIN := Lib.hid hin
  have HP := Lib.hid hp
  have HRB := Lib.hid hrb
  clear ha hin hp hres hr hrb
  go_enter Try.func13, Try.ntmps13
  go_wp2_with (fail)
  go_loopw [7, 8, 11] (fun _ _ i wr => ∃ k : Nat, k ≤ L.length ∧ i = .int .i64 k ∧ Hid ((List.range k).all (metAt r L n) = true) ∧ Ext w wr) (fun _ _ i _ => L.length - (intOf i).toNat)
  case atStart => exact ⟨0, Nat.zero_le _, rfl, Lib.hid rfl, Ext.refl w⟩
  case round =>
    obtain ⟨k, hk, rfl, hall, hXk⟩ := hrel
    by_cases hlt : k < L.length
    · have hin := HIN.out _ (List.getElem_mem hlt)
      have hpin := HP.out _ (List.getElem_mem hlt)
      have hfs := metB_snoc (r := r) (L := L) (n := n) (k := k)
      have hno := fun h => metB_not (r := r) (n := n) hlt h
      have hme : metAt r L n k = if L[k].kind = 1 then (decide (n < L[k].tick + r.getD L[k].task.toNat 0) || doneA L[k].task (L.drop (k + 1))) else if endB L[k] = true then decide (L[k].n ≤ r.getD L[k].task.toNat 0) else true := by
        unfold metAt; rw [evAt_in hlt]
      obtain ⟨b, o, rfl, hx⟩ := HE.out.at hlt
      obtain ⟨vd, hdr, hsl⟩ := Evs.cutAt HE.out (k + 1) hlt
      push_cast at hsl
      obtain ⟨x0, x1, x2, x3⟩ := hx wr hXk
      rw [evAt_in hlt] at x0 x1 x2 x3
      have HIN2 := Lib.hid hin
      have HPIN := Lib.hid hpin
      have HFS := Lib.hid hfs
      have HNO := Lib.hid hno
      have HME := Lib.hid hme
      have HDR := Lib.hid hdr
      clear hin hpin hfs hno hme hdr hx
      generalize L[k] = e at *
      generalize hRk : L.drop (k + 1) = R at *
      generalize metAt r L n k = mk at *
      clear hRk
      go_upto_region 4 with (fail)
      have hX5 := (Ext.refl wr).alloc (.cells #[.int .i64 e.tick, .int .i64 e.kind, .int .i64 e.task, .int .i64 e.n] 60)
      have hB5 := Blk.new wr #[.int .i64 e.tick, .int .i64 e.kind, .int .i64 e.task, .int .i64 e.n] 60
      generalize wr.alloc _ = W5 at hX5 hB5 ⊢
      generalize wr.heap.size = ge at hB5 ⊢
      have hce := hB5.under
      have hce0 := hB5.cell
      have HBE := Lib.hid hB5
      clear x0 x1 x2 x3 hB5
      have hEnds := fun w' (hx : Ext W5 w') => callE' hx (ends_au e w')
      have hw1 : IntKind.i64.wrap ((k : Int) + 1) = ((k + 1 : Nat) : Int) := by rw [IntKind.wrap_i64]; omega
      have hk1 : k + 1 ≤ L.length := hlt
      have hX0 := hXk.trans hX5
      cases h1 : (e.kind == 1) with
      | true =>
        obtain ⟨tick, kind, task, nn⟩ := e
        dsimp only at *
        obtain rfl := eq_of_beq h1
        have HK := Lib.hid (rfl : (1 : Int) = 1)
        obtain ⟨q1, q2⟩ := HPIN.out (.inl HK.out)
        obtain ⟨i, rfl⟩ : ∃ i : Nat, task = (i : Int) := ⟨task.toNat, by omega⟩
        have hi : i < r.length := by omega
        have hl0 : decide ((i : Int) < 0) = false := decide_eq_false (by omega)
        have hl1 : decide (r.length ≤ i) = false := decide_eq_false (by omega)
        obtain ⟨b2, o2, rfl, hxi⟩ := (HI.out.ext hX0).at hi
        have hrb := HRB.out _ (List.getElem_mem hi)
        have hm2 := HME.out
        rw [if_pos HK.out, Int.toNat_natCast, getD_at hi] at hm2
        have hEn8 : endB ⟨tick, 1, i, nn⟩ = false := by
          cases h : endB ⟨tick, 1, i, nn⟩ with
          | false => rfl
          | true =>
            have h := endB_iff.1 h
            dsimp only at h
            omega
        rw [hEn8] at hEnds
        generalize r[i] = ri at *
        have hMet := fun w' (hx : Ext W5 w') => callE' hx (isMet_au ⟨tick, 1, i, nn⟩ ri n vd R w' (HDR.out.ext (hX0.trans hx)) HIN2.out hrb)
        unfold evA at hMet hEnds
        dsimp only at hMet hEnds
        rw [← hm2] at hMet
        have HM2 := Lib.hid hm2
        clear hm2 hEn8
        go_upto_region 5 with (fail)
        refine wp_region_all (S := Ext W5) (by kernel_rfl) (by kernel_rfl) (Ext.refl W5).drew (fun K hK => ?_); (repeat (first | (apply hO_and (p := false) (q := true); (· rfl); (· rfl); (· rfl); (· rfl); simp only [Act.put, List.setIfInBounds_toArray, List.set_cons_zero, List.set_cons_succ]) | (apply hO_or (p := true) (q := true); (· rfl); (· rfl); (· rfl); (· rfl); simp only [Act.put, List.setIfInBounds_toArray, List.set_cons_zero, List.set_cons_succ]) | (apply hO_and; (· rfl); (· rfl); (· rfl); (· rfl); simp only [Act.put, List.setIfInBounds_toArray, List.set_cons_zero, List.set_cons_succ]) | (apply hO_or; (· rfl); (· rfl); (· rfl); (· rfl); simp only [Act.put, List.setIfInBounds_toArray, List.set_cons_zero, List.set_cons_succ]) | (apply hO_off; (· rfl); (· rfl); simp only [Act.put, List.setIfInBounds_toArray, List.set_cons_zero, List.set_cons_succ]) | (apply hO_un; (· rfl); (· rfl); simp only [Act.put, List.setIfInBounds_toArray, List.set_cons_zero, List.set_cons_succ]) | (apply hO_val; (· intro w hS; go_simp; with_reducible rfl); (· rfl); simp only [Act.put, List.setIfInBounds_toArray, List.set_cons_zero, List.set_cons_succ]) | (apply hO_call; (· rfl); (· intro w hS; go_simp; exact ⟨rfl, rfl⟩); (· intro w hS; exact hEnds _ hS); simp only [Act.put, List.setIfInBounds_toArray, List.set_cons_zero, List.set_cons_succ]) | (apply hO_if; (· rfl); (· rfl); (· intro hif w hS; go_simp; with_reducible rfl); simp only [Act.put, List.setIfInBounds_toArray, List.set_cons_zero, List.set_cons_succ]) | (apply hO_ifcall; (· rfl); (· rfl); (· intro hif w hS; go_simp; exact ⟨rfl, rfl⟩); (· intro hif w hS; exact hEnds _ hS); simp only [Act.put, List.setIfInBounds_toArray, List.set_cons_zero, List.set_cons_succ]))); refine hO_nil ?_; refine hK _ ?_; clear hK K
        intro w6 hx6
        have hc6 := (HBE.out.ext hx6).cell
        clear hce0
        go_upto_region 7 with (fail)
        refine wp_region_all (S := Ext W5) (by kernel_rfl) (by kernel_rfl) hx6.drew (fun K hK => ?_); (repeat (first | (apply hO_and (p := false) (q := true); (· rfl); (· rfl); (· rfl); (· rfl); simp only [Act.put, List.setIfInBounds_toArray, List.set_cons_zero, List.set_cons_succ]) | (apply hO_or (p := true) (q := true); (· rfl); (· rfl); (· rfl); (· rfl); simp only [Act.put, List.setIfInBounds_toArray, List.set_cons_zero, List.set_cons_succ]) | (apply hO_and; (· rfl); (· rfl); (· rfl); (· rfl); simp only [Act.put, List.setIfInBounds_toArray, List.set_cons_zero, List.set_cons_succ]) | (apply hO_or; (· rfl); (· rfl); (· rfl); (· rfl); simp only [Act.put, List.setIfInBounds_toArray, List.set_cons_zero, List.set_cons_succ]) | (apply hO_off; (· rfl); (· rfl); simp only [Act.put, List.setIfInBounds_toArray, List.set_cons_zero, List.set_cons_succ]) | (apply hO_un; (· rfl); (· rfl); simp only [Act.put, List.setIfInBounds_toArray, List.set_cons_zero, List.set_cons_succ]) | (apply hO_val; (· intro w hS; go_simp; with_reducible rfl); (· rfl); simp only [Act.put, List.setIfInBounds_toArray, List.set_cons_zero, List.set_cons_succ]) | (apply hO_call; (· rfl); (· intro w hS; go_simp; exact ⟨rfl, rfl⟩); (· intro w hS; exact hMet _ hS); simp only [Act.put, List.setIfInBounds_toArray, List.set_cons_zero, List.set_cons_succ]) | (apply hO_if; (· rfl); (· rfl); (· intro hif w hS; go_simp; with_reducible rfl); simp only [Act.put, List.setIfInBounds_toArray, List.set_cons_zero, List.set_cons_succ]) | (apply hO_ifcall; (· rfl); (· rfl); (· intro hif w hS; go_simp; exact ⟨rfl, rfl⟩); (· intro hif w hS; exact hMet _ hS); simp only [Act.put, List.setIfInBounds_toArray, List.set_cons_zero, List.set_cons_succ]))); refine hO_nil ?_; refine hK _ ?_; clear hK K
        intro w7 hx7
        clear hMet hEnds hc6
        cases mk with
        | false =>
          have hres := HNO.out rfl
          rw [HR.out] at hres
          subst hres
          go_wp2_with (fail)
          go_ret
          exact ⟨rfl, hX0.trans hx7⟩
        | true =>
          have hall2 := Lib.hid (show (List.range (k + 1)).all (metAt r L n) = true by rw [HFS.out, hall.out]; rfl)
          go_wp2_with (fail)
          exact ⟨⟨k + 1, hlt, rfl, hall2, hX0.trans hx7⟩, by simp [intOf]; omega⟩
      | false =>
        have HK := Lib.hid (show e.kind ≠ 1 by simpa using h1)
        have hm2 := HME.out
        rw [if_neg HK.out] at hm2
        cases hE : endB e with
        | false =>
          rw [hE] at hEnds
          rw [hE, if_neg (by simp)] at hm2
          subst hm2
          have hall2 := Lib.hid (show (List.range (k + 1)).all (metAt r L n) = true by rw [HFS.out, hall.out]; rfl)
          have HEN := Lib.hid hEnds
          clear hEnds
          go_wp2_with (fail)
          refine (HEN.out W5 (Ext.refl W5)).mono ?_
          rintro _ w6 ⟨rfl, hx6⟩
          go_wp2_with (fail)
          exact ⟨⟨k + 1, hlt, rfl, hall2, hX0.trans hx6⟩, by simp [intOf]; omega⟩
        | true =>
          rw [hE] at hEnds
          rw [hE, if_pos rfl] at hm2
          have HE8 := Lib.hid (endB_iff.1 hE)
          obtain ⟨tick, kind, task, nn⟩ := e
          dsimp only at *
          obtain ⟨q1, q2⟩ := HPIN.out (.inr HE8.out)
          obtain ⟨i, rfl⟩ : ∃ i : Nat, task = (i : Int) := ⟨task.toNat, by omega⟩
          have hi : i < r.length := by omega
          have hl0 : decide ((i : Int) < 0) = false := decide_eq_false (by omega)
          have hl1 : decide (r.length ≤ i) = false := decide_eq_false (by omega)
          obtain ⟨b2, o2, rfl, hxi⟩ := (HI.out.ext hX0).at hi
          rw [Int.toNat_natCast, getD_at hi] at hm2
          generalize r[i] = ri at *
          have hm3 : decide (ri < nn) = !mk := by
            rw [hm2]
            by_cases h : nn ≤ ri
            · rw [decide_eq_true h, decide_eq_false (by omega)]; rfl
            · rw [decide_eq_false h, decide_eq_true (by omega)]; rfl
          have HEN := Lib.hid hEnds
          unfold evA at hEnds
          dsimp only at hEnds
          clear hm2
          go_wp2_with (fail)
          refine (HEN.out W5 (Ext.refl W5)).mono ?_
          rintro _ w5 ⟨rfl, hx5⟩
          have hc5 := (HBE.out.ext hx5).cell
          clear hce0
          go_upto_region 5 with (fail)
          refine wp_region_all (S := Ext W5) (by kernel_rfl) (by kernel_rfl) hx5.drew (fun K hK => ?_); (repeat (first | (apply hO_and (p := false) (q := true); (· rfl); (· rfl); (· rfl); (· rfl); simp only [Act.put, List.setIfInBounds_toArray, List.set_cons_zero, List.set_cons_succ]) | (apply hO_or (p := true) (q := true); (· rfl); (· rfl); (· rfl); (· rfl); simp only [Act.put, List.setIfInBounds_toArray, List.set_cons_zero, List.set_cons_succ]) | (apply hO_and; (· rfl); (· rfl); (· rfl); (· rfl); simp only [Act.put, List.setIfInBounds_toArray, List.set_cons_zero, List.set_cons_succ]) | (apply hO_or; (· rfl); (· rfl); (· rfl); (· rfl); simp only [Act.put, List.setIfInBounds_toArray, List.set_cons_zero, List.set_cons_succ]) | (apply hO_off; (· rfl); (· rfl); simp only [Act.put, List.setIfInBounds_toArray, List.set_cons_zero, List.set_cons_succ]) | (apply hO_un; (· rfl); (· rfl); simp only [Act.put, List.setIfInBounds_toArray, List.set_cons_zero, List.set_cons_succ]) | (apply hO_val; (· intro w hS; go_simp; with_reducible rfl); (· rfl); simp only [Act.put, List.setIfInBounds_toArray, List.set_cons_zero, List.set_cons_succ]) | (apply hO_call; (· rfl); (· intro w hS; go_simp; exact ⟨rfl, rfl⟩); (· intro w hS; exact hEnds _ hS); simp only [Act.put, List.setIfInBounds_toArray, List.set_cons_zero, List.set_cons_succ]) | (apply hO_if; (· rfl); (· rfl); (· intro hif w hS; go_simp; with_reducible rfl); simp only [Act.put, List.setIfInBounds_toArray, List.set_cons_zero, List.set_cons_succ]) | (apply hO_ifcall; (· rfl); (· rfl); (· intro hif w hS; go_simp; exact ⟨rfl, rfl⟩); (· intro hif w hS; exact hEnds _ hS); simp only [Act.put, List.setIfInBounds_toArray, List.set_cons_zero, List.set_cons_succ]))); refine hO_nil ?_; refine hK _ ?_; clear hK K
          intro w6 hx6
          have hc6 := (HBE.out.ext hx6).cell
          clear hc5
          cases mk with
          | false =>
            have hres := HNO.out rfl
            rw [HR.out] at hres
            subst hres
            clear hEnds
            go_wp2_with (fail)
            go_ret
            exact ⟨rfl, hX0.trans hx6⟩
          | true =>
            have hall2 := Lib.hid (show (List.range (k + 1)).all (metAt r L n) = true by rw [HFS.out, hall.out]; rfl)
            clear hEnds hm3
            go_upto_region 7 with (fail)
            refine wp_region_all (S := Ext W5) (by kernel_rfl) (by kernel_rfl) hx6.drew (fun K hK => ?_); (repeat (first | (apply hO_and (p := false) (q := true); (· rfl); (· rfl); (· rfl); (· rfl); simp only [Act.put, List.setIfInBounds_toArray, List.set_cons_zero, List.set_cons_succ]) | (apply hO_or (p := true) (q := true); (· rfl); (· rfl); (· rfl); (· rfl); simp only [Act.put, List.setIfInBounds_toArray, List.set_cons_zero, List.set_cons_succ]) | (apply hO_and; (· rfl); (· rfl); (· rfl); (· rfl); simp only [Act.put, List.setIfInBounds_toArray, List.set_cons_zero, List.set_cons_succ]) | (apply hO_or; (· rfl); (· rfl); (· rfl); (· rfl); simp only [Act.put, List.setIfInBounds_toArray, List.set_cons_zero, List.set_cons_succ]) | (apply hO_off; (· rfl); (· rfl); simp only [Act.put, List.setIfInBounds_toArray, List.set_cons_zero, List.set_cons_succ]) | (apply hO_un; (· rfl); (· rfl); simp only [Act.put, List.setIfInBounds_toArray, List.set_cons_zero, List.set_cons_succ]) | (apply hO_val; (· intro w hS; go_simp; with_reducible rfl); (· rfl); simp only [Act.put, List.setIfInBounds_toArray, List.set_cons_zero, List.set_cons_succ]) | (apply hO_call; (· rfl); (· intro w hS; go_simp; exact ⟨rfl, rfl⟩); (· intro w hS; fail); simp only [Act.put, List.setIfInBounds_toArray, List.set_cons_zero, List.set_cons_succ]) | (apply hO_if; (· rfl); (· rfl); (· intro hif w hS; go_simp; with_reducible rfl); simp only [Act.put, List.setIfInBounds_toArray, List.set_cons_zero, List.set_cons_succ]) | (apply hO_ifcall; (· rfl); (· rfl); (· intro hif w hS; go_simp; exact ⟨rfl, rfl⟩); (· intro hif w hS; fail); simp only [Act.put, List.setIfInBounds_toArray, List.set_cons_zero, List.set_cons_succ]))); refine hO_nil ?_; refine hK _ ?_; clear hK K
            intro w7 hx7
            go_wp2_with (fail)
            exact ⟨⟨k + 1, hlt, rfl, hall2, hX0.trans hx7⟩, by simp [intOf]; omega⟩
    · have hke : k = L.length := by omega
      subst hke
      have hres : res = true := by rw [← HR.out]; exact hall.out
      subst hres
      go_wp2_with (fail)
      go_ret
      exact ⟨rfl, hXk⟩
end Go.Proofs.Ytlaflbepidkmnaa
