/- Who comes too early. -/
import Derived.Test.YtniejidekflmiaaGreatDoorProg
import Derived.Test.YtniejidekflmiaaGreatDoorBase
import Derived.Test.YtniejidekflmiaaGreatDoorHeldX
import Derived.Test.YtniejidekflmiaaGreatDoorApp
import Derived.Test.YtniejidekflmiaaGreatDoorExt0
import Derived.Test.YtniejidekflmiaaGreatDoorChg
import Derived.Test.YtniejidekflmiaaGreatDoorRowB
import Derived.Test.YtniejidekflmiaaGreatDoorKM
import Derived.Test.YtniejidekflmiaaGreatDoorKP1
import Derived.Test.YtniejidekflmiaaGreatDoorOpenI
import Derived.Test.YtniejidekflmiaaGreatDoorTsk1
import Derived.Deep.Cut
import Derived.Lib.Hide
import Derived.OwnWalk
import Derived.Maps.AppendAt
import Derived.BigQuiet
namespace Go.Proofs.YtniejidekflmiaaGreatDoor
open Go.RowKit
attribute [local go_sem] setCell_twice Ext.alloc Ext.drew
set_option linter.unusedSimpArgs false
set_option maxRecDepth 100000
set_option maxHeartbeats 400000
attribute [local irreducible] Calls

theorem Ext.drewN {w0 w : World} (h : Ext w0 w) (n : Nat) : Ext w0 (w.drewN n) := ⟨⟨h.below.os, h.below.tape, h.below.output, h.below.size, h.below.block⟩⟩
/-- a watch: its period; when its last job came (-1: none came) -/
def encWa (p : Int × Int) : List Value := [.int .i64 p.1, .int .i64 (if p.2 < 0 then 0 else p.2), .bool (decide (0 ≤ p.2))]
theorem encWa_len (p : Int × Int) : (encWa p).length = 3 := rfl
structure PolAt (w : World) (gp : Nat) (v : Value) (ps : List (Int × Int)) : Prop where
  box : Blk w gp #[v] 122
  row : OwnL encWa w 0 124 3 v ps
  len : ps.length ≤ 8
  fit : ∀ p ∈ ps, 1 ≤ p.1 ∧ p.1 ≤ 10000 ∧ -1 ≤ p.2 ∧ p.2 ≤ 4611686018427387904
theorem PolAt.ext {w w' : World} {gp : Nat} {v : Value} {ps : List (Int × Int)} (h : PolAt w gp v ps) (hx : Ext w w') : PolAt w' gp v ps := ⟨h.box.ext hx, h.row.below hx.below, h.len, h.fit⟩
theorem PolAt.chg {F : Nat → Prop} {w w' : World} {gp : Nat} {v : Value} {ps : List (Int × Int)} (h : PolAt w gp v ps) (hx : Chg F w w') (h1 : ¬ F gp) (h2 : ∀ k, v.ownBlock = some k → ¬ F k) : PolAt w' gp v ps := ⟨h.box.chg hx h1, h.row.chg hx h2, h.len, h.fit⟩
theorem at_pol (gp i : Nat) (v : Value) (ps : List (Int × Int)) (w : World) (h : PolAt w gp v ps) (hi : i < ps.length) :
    Calls Tryz.prog 109 #[.pointer (some ⟨gp, 0, none⟩), .int .i64 i] w fun e w' => (∃ g c, v = .slice (some ⟨g, 0, none⟩) ps.length c ∧ e = .returned (.pointer (some ⟨g, i * 3, none⟩))) ∧ w = w' := by
  obtain ⟨g, c, rfl, _, _⟩ := h.row.some' (by omega)
  have hc := h.box.cell
  have hl := h.len
  obtain ⟨_, _, e, hcap, hmax⟩ := h.row.form
  obtain ⟨-, -, rfl⟩ := Value.slice.inj e
  generalize ps.length = n at *
  go_enter Tryz.func109, Tryz.ntmps109
  go_wp2_with (fail)
  go_ret
  exact ⟨⟨g, c, rfl, rfl⟩, by first | trivial | rfl⟩
/-- too early? -/
def earlyP (p : Int × Int) (t : Int) : Bool := decide (0 ≤ p.2) && (decide (t < p.2) || decide (t - p.2 < p.1))
theorem early_pol (gp i : Nat) (v : Value) (ps : List (Int × Int)) (t : Int) (w : World) (h : PolAt w gp v ps) (hi : i < ps.length) (h0 : 0 ≤ t) (h1 : t ≤ 4611686018427387904) :
    Calls Tryz.prog 62 #[.pointer (some ⟨gp, 0, none⟩), .int .i64 i, .int .i64 t] w fun e w' => e = .returned (.bool (earlyP ps[i] t)) ∧ Ext w w' := by
  have hA := at_pol gp i v ps w h hi
  obtain ⟨g, c, rfl, _, _⟩ := h.row.some' (by omega)
  have c0 := h.row.cellAt encWa_len hi (j := 0) (by decide)
  have c1 := h.row.cellAt encWa_len hi (j := 1) (by decide)
  have c2 := h.row.cellAt encWa_len hi (j := 2) (by decide)
  have hf := h.fit _ (List.getElem_mem hi)
  generalize hp : ps[i] = p at *
  obtain ⟨T, l⟩ := p
  simp only [encWa, List.getElem?_cons_zero, List.getElem?_cons_succ] at c0 c1 c2 hf
  rw [Nat.add_zero] at c0
  have hb : IntKind.i64.wrap (t - l) = t - l := by rw [IntKind.wrap_i64]; omega
  have hb2 : wrap64 (t - l) = t - l := by unfold wrap64; omega
  have hbb : -9223372036854775808 ≤ t - l ∧ t - l ≤ 9223372036854775807 := by omega
  obtain ⟨m, hm⟩ : ∃ m, m = earlyP (T, l) t := ⟨_, rfl⟩
  rw [← hm]
  unfold earlyP at hm
  have HM := Lib.hid hm
  have HA := Lib.hid hA
  clear hm hA
  by_cases hl : l < 0
  · have hd : decide (0 ≤ l) = false := decide_eq_false (by omega)
    rw [hd] at c2
    rw [if_pos hl] at c1
    have E : false = m := by rw [HM.out]; dsimp only; rw [hd]; rfl
    subst E
    go_enter Tryz.func62, Tryz.ntmps62
    go_wp2_with (fail)
    refine HA.out.mono ?_
    rintro e w1 ⟨⟨g', c', e', rfl⟩, rfl⟩
    obtain ⟨e1, -, -⟩ := Value.slice.inj e'
    obtain rfl : g = g' := by simpa using e1
    clear e' e1
    go_wp2_with (fail)
    go_quiet (fail)
    go_wp2_with (fail)
    go_ret
    exact ⟨rfl, (Ext.refl _).drewN _⟩
  · have hd : decide (0 ≤ l) = true := decide_eq_true (by omega)
    rw [hd] at c2
    rw [if_neg hl] at c1
    by_cases hlt : t < l
    · have hd2 : decide (t < l) = true := decide_eq_true hlt
      have E : true = m := by rw [HM.out]; dsimp only; rw [hd, hd2]; rfl
      subst E
      go_enter Tryz.func62, Tryz.ntmps62
      go_wp2_with (fail)
      refine HA.out.mono ?_
      rintro e w1 ⟨⟨g', c', e', rfl⟩, rfl⟩
      obtain ⟨e1, -, -⟩ := Value.slice.inj e'
      obtain rfl : g = g' := by simpa using e1
      clear e' e1
      go_wp2_with (fail)
      go_quiet (fail)
      go_wp2_with (fail)
      go_ret
      exact ⟨rfl, (Ext.refl _).drewN _⟩
    · have hd2 : decide (t < l) = false := decide_eq_false hlt
      have E : decide (t - l < T) = m := by rw [HM.out]; dsimp only; rw [hd, hd2]; rfl
      cases hd3 : decide (t - l < T) with
      | false =>
        rw [hd3] at E
        subst E
        have hd4 := of_decide_eq_false hd3
        go_enter Tryz.func62, Tryz.ntmps62
        go_wp2_with (fail)
        refine HA.out.mono ?_
        rintro e w1 ⟨⟨g', c', e', rfl⟩, rfl⟩
        obtain ⟨e1, -, -⟩ := Value.slice.inj e'
        obtain rfl : g = g' := by simpa using e1
        clear e' e1
        go_wp2_with (fail)
        go_quiet (fail)
        go_wp2_with (fail)
        go_ret
        exact ⟨rfl, (Ext.refl _).drewN _⟩
      | true =>
        rw [hd3] at E
        subst E
        have hd4 := of_decide_eq_true hd3
        go_enter Tryz.func62, Tryz.ntmps62
        go_wp2_with (fail)
        refine HA.out.mono ?_
        rintro e w1 ⟨⟨g', c', e', rfl⟩, rfl⟩
        obtain ⟨e1, -, -⟩ := Value.slice.inj e'
        obtain rfl : g = g' := by simpa using e1
        clear e' e1
        go_wp2_with (fail)
        go_quiet (fail)
        go_wp2_with (fail)
        go_ret
        exact ⟨rfl, (Ext.refl _).drewN _⟩
theorem pol_put {w : World} {gp i g n c : Nat} {ps : List (Int × Int)} {t : Int} (h : PolAt w gp (.slice (some ⟨g, 0, none⟩) n c) ps) (hi : i < ps.length) (h0 : 0 ≤ t) (h1 : t ≤ 4611686018427387904) :
    (∃ u, w.cell? ⟨g, i * 3 + 1, none⟩ = some u) ∧ (∃ u, w.cell? ⟨g, i * 3 + 2, none⟩ = some u) ∧ (∀ j, w.frozen? ⟨g, j, none⟩ = false) ∧
    PolAt ((w.setCell ⟨g, i * 3 + 1, none⟩ (.int .i64 t)).setCell ⟨g, i * 3 + 2, none⟩ (.bool true)) gp (.slice (some ⟨g, 0, none⟩) n c) (ps.set i (ps[i].1, t)) ∧
    Chg (fun q => (Value.slice (some ⟨g, 0, none⟩) n c).ownBlock = some q) w ((w.setCell ⟨g, i * 3 + 1, none⟩ (.int .i64 t)).setCell ⟨g, i * 3 + 2, none⟩ (.bool true)) := by
  have hf := h.fit _ (List.getElem_mem hi)
  have hne : gp ≠ g := by
    intro e
    exact own_ne_blk h.row h.box (by decide) (by rw [e]; rfl)
  refine ⟨⟨_, h.row.cellAt encWa_len hi (j := 1) (by decide)⟩, ⟨_, h.row.cellAt encWa_len hi (j := 2) (by decide)⟩, fun j => h.row.freeAt j, ⟨?_, ?_, by rw [List.length_set]; exact h.len, fun p hp => ?_⟩, ?_⟩
  · exact (h.box.far (p := ⟨g, i * 3 + 1, none⟩) hne (.int .i64 t)).far (p := ⟨g, i * 3 + 2, none⟩) hne (.bool true)
  · exact h.row.stored2 encWa_len (i := i) (j := 1) (k := 2) (u := .int .i64 t) (u' := .bool true) (x' := (ps[i].1, t)) (by decide) (by decide) (fun _ => by
      simp only [encWa, List.set_cons_succ, List.set_cons_zero]
      rw [if_neg (by omega), decide_eq_true h0])
  · rcases List.mem_or_eq_of_mem_set hp with hp | rfl
    · exact h.fit p hp
    · exact ⟨hf.1, hf.2.1, by dsimp only; omega, h1⟩
  · exact ((Chg.refl (fun q => (Value.slice (some ⟨g, 0, none⟩) n c).ownBlock = some q) w).set (g := g) (i := i * 3 + 1) (.inl rfl) (.int .i64 t)).set (g := g) (i := i * 3 + 2) (.inl rfl) (.bool true)
theorem note_pol (gp i : Nat) (v : Value) (ps : List (Int × Int)) (t : Int) (w : World) (h : PolAt w gp v ps) (hi : i < ps.length) (h0 : 0 ≤ t) (h1 : t ≤ 4611686018427387904) (he : earlyP ps[i] t = false) :
    Calls Tryz.prog 64 #[.pointer (some ⟨gp, 0, none⟩), .int .i64 i, .int .i64 t] w fun e w' => e = .returned (.bool true) ∧ PolAt w' gp v (ps.set i (ps[i].1, t)) ∧ Chg (fun q => v.ownBlock = some q) w w' := by
  have hA := at_pol gp i v ps w h hi
  have hE := early_pol gp i v ps t w h hi h0 h1
  rw [he] at hE
  obtain ⟨g, c, rfl, _, _⟩ := h.row.some' (by omega)
  have hl8 := h.len
  have HA := Lib.hid hA
  have HE := Lib.hid hE
  have HI := Lib.hid hi
  have HP := Lib.hid (fun (w' : World) (hX : Ext w w') => pol_put (h.ext hX) hi h0 h1)
  have hd0 : decide (t < 0) = false := decide_eq_false (by omega)
  clear hA hE he h
  go_enter Tryz.func64, Tryz.ntmps64
  go_wp2_with (fail)
  refine HA.out.mono ?_
  rintro e w1 ⟨⟨g', c', e', rfl⟩, rfl⟩
  obtain ⟨e1, -, -⟩ := Value.slice.inj e'
  obtain rfl : g = g' := by simpa using e1
  clear e' e1
  go_wp2_with (fail)
  refine HE.out.mono ?_
  rintro e w1 ⟨rfl, hX⟩
  obtain ⟨⟨u1, c1⟩, ⟨u2, c2⟩, hfr, hend, hch⟩ := HP.out w1 hX
  have hf1 := hfr (i * 3 + 1)
  have hf2 := hfr (i * 3 + 2)
  have HN := Lib.hid hend
  have HC := Lib.hid hch
  clear hfr hend hch
  go_wp2_with (fail)
  go_ret
  exact ⟨rfl, HN.out, (Chg.of_ext hX).trans HC.out⟩
end Go.Proofs.YtniejidekflmiaaGreatDoor