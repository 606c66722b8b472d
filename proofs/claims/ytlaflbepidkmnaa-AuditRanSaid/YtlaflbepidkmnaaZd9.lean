/- Lemmas: The document's police (ref19). -/
import Derived.Test.YtlaflbepidkmnaaProg
import Derived.Test.YtlaflbepidkmnaaZd8
import Derived.Deep.Cut
import Derived.Lib.Hide
import Derived.OwnWalk
import Derived.Maps.AppendAt
import Derived.BigQuiet
/- R19 -/
namespace Go.Proofs.Ytlaflbepidkmnaa
open Go.RowKit
attribute [local go_sem] setCell_twice Ext.alloc Ext.drew
set_option linter.unusedSimpArgs false
set_option linter.unusedVariables false
set_option maxRecDepth 100000
set_option maxHeartbeats 1600000
attribute [local irreducible] Calls

/-- a box that holds two rows of numbers of the call's own -/
structure Two (w0 w : World) (t : TypeId) (gp : Nat) (cs : Array Value) (va vb : Value) (xs ys : List Int) : Prop where
  ext : Ext w0 w
  ge : w0.heap.size ≤ gp
  box : Blk w gp cs t
  a : RowI w w0.heap.size va xs
  b : RowI w w0.heap.size vb ys
  ne : ∀ k, va.ownBlock = some k → vb.ownBlock ≠ some k
section
variable {w0 w w' : World} {t : TypeId} {gp : Nat} {cs : Array Value} {va vb v : Value} {xs ys zs : List Int}
theorem Two.to (h : Two w0 w t gp cs va vb xs ys) (hx : Ext w w') : Two w0 w' t gp cs va vb xs ys :=
  ⟨h.ext.trans hx, h.ge, h.box.ext hx, OwnL.below h.a hx.below, OwnL.below h.b hx.below, h.ne⟩
theorem Two.appA (h : Two w0 w t gp cs va vb xs ys) (ht : 2 ≠ t) (hg : w.grownBy w' va.ownBlock) (ho : OwnL encI w' w0.heap.size 2 1 v zs) (hloc : v.ownBlock = va.ownBlock ∨ v.ownBlock = some w.heap.size) : Two w0 w' t gp cs v vb zs ys :=
  ⟨h.ext.grown hg (fun k hk => (OwnL.lt h.a k hk).1), h.ge, h.box.grown hg (own_ne_blk h.a h.box ht), ho, OwnL.grown h.b hg (fun k hk e => h.ne k e hk), fun k hk e => by
    rcases hloc with h1 | h1
    · rw [h1] at hk; exact h.ne k hk e
    · rw [h1] at hk
      have := (OwnL.lt h.b k e).2
      injection hk with hk
      omega⟩
theorem Two.appB (h : Two w0 w t gp cs va vb xs ys) (ht : 2 ≠ t) (hg : w.grownBy w' vb.ownBlock) (ho : OwnL encI w' w0.heap.size 2 1 v zs) (hloc : v.ownBlock = vb.ownBlock ∨ v.ownBlock = some w.heap.size) : Two w0 w' t gp cs va v xs zs :=
  ⟨h.ext.grown hg (fun k hk => (OwnL.lt h.b k hk).1), h.ge, h.box.grown hg (own_ne_blk h.b h.box ht), OwnL.grown h.a hg (fun k hk e => h.ne k hk e), ho, fun k hk e => by
    rcases hloc with h1 | h1
    · rw [h1] at e; exact h.ne k hk e
    · rw [h1] at e
      have := (OwnL.lt h.a k hk).2
      injection e with e
      omega⟩
theorem Two.set (h : Two w0 w t gp cs va vb xs ys) (ht : 2 ≠ t) (i : Nat) (u : Value) {cs' : Array Value} (he : cs.setIfInBounds i u = cs') : Two w0 (w.setCell ⟨gp, i, none⟩ u) t gp cs' va vb xs ys :=
  ⟨h.ext.set h.ge u, h.ge, he ▸ h.box.set i u, OwnL.set h.a (a := ⟨gp, i, none⟩) (own_ne_blk h.a h.box ht) u, OwnL.set h.b (a := ⟨gp, i, none⟩) (own_ne_blk h.b h.box ht) u, h.ne⟩
end
/-- the document's police at gp -/
structure Pol19 (w : World) (gp : Nat) (vt vl : Value) (ps : List (Int × Int)) : Prop where
  box : Blk w gp #[vt, vl] 111
  t : RowI w 0 vt (ps.map (·.1))
  l : RowI w 0 vl (ps.map (·.2))
  ne : ∀ k, vt.ownBlock = some k → vl.ownBlock ≠ some k
  len : ps.length ≤ 8
  fit : ∀ p ∈ ps, 1 ≤ p.1 ∧ p.1 ≤ 10000 ∧ -1 ≤ p.2 ∧ p.2 ≤ 4611686018427387904
section
variable {w w' : World} {gp : Nat} {vt vl : Value} {ps : List (Int × Int)}
theorem Pol19.ext (h : Pol19 w gp vt vl ps) (hx : Ext w w') : Pol19 w' gp vt vl ps := ⟨h.box.ext hx, OwnL.below h.t hx.below, OwnL.below h.l hx.below, h.ne, h.len, h.fit⟩
theorem Pol19.chg {F : Nat → Prop} (h : Pol19 w gp vt vl ps) (hx : Chg F w w') (h1 : ¬ F gp) (h2 : ∀ k, vt.ownBlock = some k → ¬ F k) (h3 : ∀ k, vl.ownBlock = some k → ¬ F k) : Pol19 w' gp vt vl ps :=
  ⟨h.box.chg hx h1, OwnL.chg h.t hx h2, OwnL.chg h.l hx h3, h.ne, h.len, h.fit⟩
end
theorem is_r19 (gp i : Nat) (vt vl : Value) (ps : List (Int × Int)) (w : World) (h : Pol19 w gp vt vl ps) (hi : i < ps.length) :
    Calls Try.prog 75 #[.pointer (some ⟨gp, 0, none⟩), .int .i64 i] w fun e w' => e = .returned (.bool true) ∧ Below w.heap.size w w' := by
  obtain ⟨A, c, rfl, hle, hcm⟩ := OwnL.form h.t
  unfold maxLen at hcm
  rw [List.length_map] at hle h
  have hc := h.box.cell
  clear h
  have hn : (i : Int) < (ps.length : Int) := by omega
  generalize ps.length = n at *
  have hd : decide ((i : Int) < (n : Int)) = true := decide_eq_true hn
  have hd0 : decide (0 ≤ (i : Int)) = true := decide_eq_true (by omega)
  go_enter Try.func75, Try.ntmps75
  go_wp2_with (fail)
  go_ret
  exact ⟨by first | rfl | simp [hd, hd0], Below.refl _ _⟩
theorem early_r19 (gp i : Nat) (vt vl : Value) (ps : List (Int × Int)) (t : Int) (w : World) (h : Pol19 w gp vt vl ps) (hi : i < ps.length) (h0 : 0 ≤ t) (h1 : t ≤ 4611686018427387904) :
    Calls Try.prog 54 #[.pointer (some ⟨gp, 0, none⟩), .int .i64 i, .int .i64 t] w fun e w' => e = .returned (.bool (earlyP ps[i] t)) ∧ Below w.heap.size w w' := by
  have HI := Lib.hid fun W (hX : Ext w W) => is_r19 gp i vt vl ps W (h.ext hX) hi
  have hf := h.fit _ (List.getElem_mem hi)
  obtain ⟨A, c, rfl, hle, hcm⟩ := OwnL.form h.t
  obtain ⟨A2, c2, rfl, hle2, hcm2⟩ := OwnL.form h.l
  unfold maxLen at hcm hcm2
  simp only [List.length_map] at hle hle2 h
  obtain ⟨b1, o1, rfl, hx1⟩ := (show Ints w (.slice A (ps.map (·.1)).length c) (ps.map (·.1)) by rw [List.length_map]; exact RowI.ints h.t).at (k := i) (by rw [List.length_map]; exact hi)
  obtain ⟨b2, o2, rfl, hx2⟩ := (show Ints w (.slice A2 (ps.map (·.2)).length c2) (ps.map (·.2)) by rw [List.length_map]; exact RowI.ints h.l).at (k := i) (by rw [List.length_map]; exact hi)
  have hc : ∀ w', Ext w w' → ∀ j, w'.cell? ⟨gp, j, none⟩ = #[Value.slice (some ⟨b1, o1, none⟩) ps.length c, .slice (some ⟨b2, o2, none⟩) ps.length c2][j]? := fun w' hx => (h.box.ext hx).cell
  rw [List.getElem_map] at hx1 hx2
  clear h
  have hn : (i : Int) < (ps.length : Int) := by omega
  have hwr : wrap64 (t - ps[i].2) = t - ps[i].2 := by unfold wrap64; omega
  have hwr2 : IntKind.i64.wrap (t - ps[i].2) = t - ps[i].2 := by rw [IntKind.wrap_i64]; omega
  have HE := Lib.hid (show earlyP ps[i] t = (decide (0 ≤ ps[i].2) && (decide (t < ps[i].2) || decide (t - ps[i].2 < ps[i].1))) from rfl)
  generalize earlyP _ _ = res at *
  generalize ps[i].1 = p1 at *
  generalize ps[i].2 = p2 at *
  generalize ps.length = n at *
  by_cases hl : p2 < 0
  · have hd : decide (0 ≤ p2) = false := decide_eq_false (by omega)
    have HE2 := Lib.hid (show res = false by rw [HE.out, hd]; rfl)
    clear HE
    go_enter Try.func54, Try.ntmps54
    go_upto_region 1 with (fail)
    refine wp_region_all (S := Ext w) (by kernel_rfl) (by kernel_rfl) (Ext.refl w).drew (fun K hK => ?_); (repeat (first | (apply hO_and (p := false) (q := true); (· rfl); (· rfl); (· rfl); (· rfl); simp only [Act.put, List.setIfInBounds_toArray, List.set_cons_zero, List.set_cons_succ]) | (apply hO_or (p := true) (q := true); (· rfl); (· rfl); (· rfl); (· rfl); simp only [Act.put, List.setIfInBounds_toArray, List.set_cons_zero, List.set_cons_succ]) | (apply hO_and; (· rfl); (· rfl); (· rfl); (· rfl); simp only [Act.put, List.setIfInBounds_toArray, List.set_cons_zero, List.set_cons_succ]) | (apply hO_or; (· rfl); (· rfl); (· rfl); (· rfl); simp only [Act.put, List.setIfInBounds_toArray, List.set_cons_zero, List.set_cons_succ]) | (apply hO_off; (· rfl); (· rfl); simp only [Act.put, List.setIfInBounds_toArray, List.set_cons_zero, List.set_cons_succ]) | (apply hO_un; (· rfl); (· rfl); simp only [Act.put, List.setIfInBounds_toArray, List.set_cons_zero, List.set_cons_succ]) | (apply hO_val; (· intro w hS; go_simp; with_reducible rfl); (· rfl); simp only [Act.put, List.setIfInBounds_toArray, List.set_cons_zero, List.set_cons_succ]) | (apply hO_call; (· rfl); (· intro w hS; go_simp; exact ⟨rfl, rfl⟩); (· intro w hS; first | exact callX hS (HI.out _ hS)); simp only [Act.put, List.setIfInBounds_toArray, List.set_cons_zero, List.set_cons_succ]) | (apply hO_if; (· rfl); (· rfl); (· intro hif w hS; go_simp; with_reducible rfl); simp only [Act.put, List.setIfInBounds_toArray, List.set_cons_zero, List.set_cons_succ]) | (apply hO_ifcall; (· rfl); (· rfl); (· intro hif w hS; go_simp; exact ⟨rfl, rfl⟩); (· intro hif w hS; first | exact callX hS (HI.out _ hS)); simp only [Act.put, List.setIfInBounds_toArray, List.set_cons_zero, List.set_cons_succ]))); refine hO_nil ?_; refine hK _ ?_; clear hK K
    intro w2 hX2
    go_wp2_with (fail)
    go_ret
    exact ⟨by rw [HE2.out]; rfl, hX2.below⟩
  · have hd : decide (0 ≤ p2) = true := decide_eq_true (by omega)
    by_cases hlt : t < p2
    · have hd2 : decide (t < p2) = true := decide_eq_true hlt
      have HE2 := Lib.hid (show res = true by rw [HE.out, hd, hd2]; rfl)
      clear HE
      go_enter Try.func54, Try.ntmps54
      go_upto_region 1 with (fail)
      refine wp_region_all (S := Ext w) (by kernel_rfl) (by kernel_rfl) (Ext.refl w).drew (fun K hK => ?_); (repeat (first | (apply hO_and (p := false) (q := true); (· rfl); (· rfl); (· rfl); (· rfl); simp only [Act.put, List.setIfInBounds_toArray, List.set_cons_zero, List.set_cons_succ]) | (apply hO_or (p := true) (q := true); (· rfl); (· rfl); (· rfl); (· rfl); simp only [Act.put, List.setIfInBounds_toArray, List.set_cons_zero, List.set_cons_succ]) | (apply hO_and; (· rfl); (· rfl); (· rfl); (· rfl); simp only [Act.put, List.setIfInBounds_toArray, List.set_cons_zero, List.set_cons_succ]) | (apply hO_or; (· rfl); (· rfl); (· rfl); (· rfl); simp only [Act.put, List.setIfInBounds_toArray, List.set_cons_zero, List.set_cons_succ]) | (apply hO_off; (· rfl); (· rfl); simp only [Act.put, List.setIfInBounds_toArray, List.set_cons_zero, List.set_cons_succ]) | (apply hO_un; (· rfl); (· rfl); simp only [Act.put, List.setIfInBounds_toArray, List.set_cons_zero, List.set_cons_succ]) | (apply hO_val; (· intro w hS; go_simp; with_reducible rfl); (· rfl); simp only [Act.put, List.setIfInBounds_toArray, List.set_cons_zero, List.set_cons_succ]) | (apply hO_call; (· rfl); (· intro w hS; go_simp; exact ⟨rfl, rfl⟩); (· intro w hS; first | exact callX hS (HI.out _ hS)); simp only [Act.put, List.setIfInBounds_toArray, List.set_cons_zero, List.set_cons_succ]) | (apply hO_if; (· rfl); (· rfl); (· intro hif w hS; go_simp; with_reducible rfl); simp only [Act.put, List.setIfInBounds_toArray, List.set_cons_zero, List.set_cons_succ]) | (apply hO_ifcall; (· rfl); (· rfl); (· intro hif w hS; go_simp; exact ⟨rfl, rfl⟩); (· intro hif w hS; first | exact callX hS (HI.out _ hS)); simp only [Act.put, List.setIfInBounds_toArray, List.set_cons_zero, List.set_cons_succ]))); refine hO_nil ?_; refine hK _ ?_; clear hK K
      intro w2 hX2
      go_wp2_with (fail)
      go_ret
      exact ⟨by rw [HE2.out]; rfl, hX2.below⟩
    · have hd2 : decide (t < p2) = false := decide_eq_false hlt
      have HE2 := Lib.hid (show res = decide (t - p2 < p1) by rw [HE.out, hd, hd2]; rfl)
      clear HE
      go_enter Try.func54, Try.ntmps54
      go_upto_region 1 with (fail)
      refine wp_region_all (S := Ext w) (by kernel_rfl) (by kernel_rfl) (Ext.refl w).drew (fun K hK => ?_); (repeat (first | (apply hO_and (p := false) (q := true); (· rfl); (· rfl); (· rfl); (· rfl); simp only [Act.put, List.setIfInBounds_toArray, List.set_cons_zero, List.set_cons_succ]) | (apply hO_or (p := true) (q := true); (· rfl); (· rfl); (· rfl); (· rfl); simp only [Act.put, List.setIfInBounds_toArray, List.set_cons_zero, List.set_cons_succ]) | (apply hO_and; (· rfl); (· rfl); (· rfl); (· rfl); simp only [Act.put, List.setIfInBounds_toArray, List.set_cons_zero, List.set_cons_succ]) | (apply hO_or; (· rfl); (· rfl); (· rfl); (· rfl); simp only [Act.put, List.setIfInBounds_toArray, List.set_cons_zero, List.set_cons_succ]) | (apply hO_off; (· rfl); (· rfl); simp only [Act.put, List.setIfInBounds_toArray, List.set_cons_zero, List.set_cons_succ]) | (apply hO_un; (· rfl); (· rfl); simp only [Act.put, List.setIfInBounds_toArray, List.set_cons_zero, List.set_cons_succ]) | (apply hO_val; (· intro w hS; go_simp; with_reducible rfl); (· rfl); simp only [Act.put, List.setIfInBounds_toArray, List.set_cons_zero, List.set_cons_succ]) | (apply hO_call; (· rfl); (· intro w hS; go_simp; exact ⟨rfl, rfl⟩); (· intro w hS; first | exact callX hS (HI.out _ hS)); simp only [Act.put, List.setIfInBounds_toArray, List.set_cons_zero, List.set_cons_succ]) | (apply hO_if; (· rfl); (· rfl); (· intro hif w hS; go_simp; with_reducible rfl); simp only [Act.put, List.setIfInBounds_toArray, List.set_cons_zero, List.set_cons_succ]) | (apply hO_ifcall; (· rfl); (· rfl); (· intro hif w hS; go_simp; exact ⟨rfl, rfl⟩); (· intro hif w hS; first | exact callX hS (HI.out _ hS)); simp only [Act.put, List.setIfInBounds_toArray, List.set_cons_zero, List.set_cons_succ]))); refine hO_nil ?_; refine hK _ ?_; clear hK K
      intro w2 hX2
      go_wp2_with (fail)
      go_ret
      exact ⟨by rw [HE2.out]; rfl, hX2.below⟩
theorem rowI_put {w : World} {g i n c : Nat} {xs : List Int} (x : Int) (h : RowI w 0 (.slice (some ⟨g, 0, none⟩) n c) xs) : RowI (w.setCell ⟨g, i, none⟩ (.int .i64 x)) 0 (.slice (some ⟨g, 0, none⟩) n c) (xs.set i x) := by
  have := OwnL.stored (enc := encI) h (fun _ => rfl) (i := i) (j := 0) (u := .int .i64 x) (x' := x) (by decide) (fun _ => rfl)
  rw [Nat.mul_one, Nat.add_zero] at this
  exact this
theorem note_r19 (gp i : Nat) (vt vl : Value) (ps : List (Int × Int)) (t : Int) (w : World) (h : Pol19 w gp vt vl ps) (hi : i < ps.length) (h0 : 0 ≤ t) (h1 : t ≤ 4611686018427387904) (he : earlyP ps[i] t = false) :
    Calls Try.prog 56 #[.pointer (some ⟨gp, 0, none⟩), .int .i64 i, .int .i64 t] w fun e w' => e = .returned (.bool true) ∧ Pol19 w' gp vt vl (ps.set i (ps[i].1, t)) ∧ Chg (fun q => vl.ownBlock = some q) w w' := by
  have hI := is_r19 gp i vt vl ps w h hi
  have HEA := Lib.hid fun W (hX : Ext w W) => early_r19 gp i vt vl ps t W (h.ext hX) hi h0 h1
  rw [he] at HEA
  have hil : i < (ps.map (·.2)).length := by rw [List.length_map]; exact hi
  obtain ⟨g, c, rfl, _, _⟩ := OwnL.some' h.l (by omega)
  simp only [List.length_map] at h hI HEA ⊢
  have hne : gp ≠ g := fun e => own_ne_blk h.l h.box (by decide) (by rw [e]; rfl)
  have hn : (i : Int) < (ps.length : Int) := by omega
  have H := Lib.hid h
  have HI := Lib.hid hI
  have HS := Lib.hid he
  have hl8 := h.len
  have hd0 : decide (t < 0) = false := decide_eq_false (by omega)
  have hnn : ps.length = ps.length := rfl
  clear h hI he
  obtain ⟨n, hN⟩ : ∃ n, n = ps.length := ⟨_, rfl⟩
  rw [← hN] at H hn hl8 ⊢
  have HN := Lib.hid hN
  clear hN hnn hil
  go_enter Try.func56, Try.ntmps56
  go_wp2_with (fail)
  refine HI.out.mono ?_
  rintro e w1 ⟨rfl, hb1⟩
  have hX1 : Ext w w1 := ⟨hb1⟩
  go_wp2_with (fail)
  refine (HEA.out w1 hX1).mono ?_
  rintro e w2 ⟨rfl, hb2⟩
  have hX2 := hX1.trans ⟨hb2⟩
  have H2 := H.out.ext hX2
  have hc := H2.box.cell
  have hc1 := OwnL.cellAt H2.l (fun _ => rfl) (i := i) (j := 0) (by rw [List.length_map]; have := HN.out; omega) (by decide)
  have hf1 := OwnL.freeAt H2.l i
  rw [Nat.mul_one, Nat.add_zero] at hc1
  have HH := Lib.hid H2
  clear H2
  go_wp2_with (fail)
  go_ret
  refine ⟨rfl, ⟨HH.out.box.far (p := ⟨g, i, none⟩) hne _, ?_, ?_, HH.out.ne, by rw [List.length_set]; exact HH.out.len, fun p hp => ?_⟩, (Chg.of_ext (F := fun q => (Value.slice (some ⟨g, 0, none⟩) n c).ownBlock = some q) hX2).set (g := g) (.inl rfl) _⟩
  · have := OwnL.set HH.out.t (a := ⟨g, i, none⟩) (fun e => HH.out.ne g e rfl) (.int .i64 t)
    rw [show (ps.set i (ps[i].1, t)).map (·.1) = ps.map (·.1) by rw [List.map_set]; exact List.ext_getElem (by simp) (fun k h1 h2 => by rw [List.getElem_set]; split <;> simp_all)]
    exact this
  · rw [List.map_set]
    exact rowI_put t HH.out.l
  · rcases List.mem_or_eq_of_mem_set hp with hp | rfl
    · exact HH.out.fit p hp
    · have := HH.out.fit _ (List.getElem_mem (by have := HN.out; omega : i < ps.length))
      exact ⟨this.1, this.2.1, by dsimp only; omega, h1⟩
/-- what holds throughout: the box's second cell -/
def SBox (w : World) (gp : Nat) (vb : Value) (w' : World) : Prop := Ext w w' ∧ w'.cell? ⟨gp, 1, none⟩ = some vb
section
variable {w0 w w' : World} {t : TypeId} {gp : Nat} {cs : Array Value} {va vb v c0 c1 : Value} {rest : List Value} {xs ys zs : List Int}
theorem Two.sb (h : Two w0 w t gp (c0 :: c1 :: rest).toArray va vb xs ys) : SBox w0 gp c1 w := ⟨h.ext, by rw [h.box.cell]; rfl⟩
theorem Two.fresh (h : Two w0 w t gp cs va vb xs ys) : va.ownBlock ≠ some w.heap.size ∧ vb.ownBlock ≠ some w.heap.size :=
  ⟨fun e => by have := (OwnL.lt h.a _ e).2; omega, fun e => by have := (OwnL.lt h.b _ e).2; omega⟩
theorem SBox.ext (h : SBox w0 gp vb w) (hx : Ext w w') : SBox w0 gp vb w' := ⟨h.1.trans hx, hx.cell h.2⟩
theorem own_sl {α : Type} {enc : α → List Value} {b s : Nat} {e : TypeId} {l : List α} (h : OwnL enc w b e s v l) : ∃ n A c, v = .slice A n c := by
  obtain ⟨A, c, e, _⟩ := OwnL.form h
  exact ⟨_, A, c, e⟩
theorem encI_one (x : Int) : ∀ u ∈ encI x, u.oneCell' = true := by
  intro u hu
  simp only [encI, List.mem_singleton] at hu
  subst hu
  rfl
end
section
variable {P : Program} {ops : Array Oper} {S : World → Prop} {R : Act → World → Prop} {z : Nat}
theorem wpZ_three {i j k : Nat} {oi oj ok : Oper} {f : Nat} {listed : Array Bool} {a : Act} {w : World} (hr : Region.ready .any ops listed = [i, j, k]) (hi : ops[i]? = some oi) (hj : ops[j]? = some oj) (hk : ops[k]? = some ok) (hgi : oi.guard = none) (hgj : oj.guard = none) (hgk : ok.guard = none)
    (h1 : ∀ w', Ext w w' → ∀ K : Act → World → Prop, (∀ a' w'', S w'' → wpZ P ops z S R f (listed.setIfInBounds i true) a' w'' → K a' w'') → oi.wp P a w' K qNone)
    (h2 : ∀ w', Ext w w' → ∀ K : Act → World → Prop, (∀ a' w'', S w'' → wpZ P ops z S R f (listed.setIfInBounds j true) a' w'' → K a' w'') → oj.wp P a w' K qNone)
    (h3 : ∀ w', Ext w w' → ∀ K : Act → World → Prop, (∀ a' w'', S w'' → wpZ P ops z S R f (listed.setIfInBounds k true) a' w'' → K a' w'') → ok.wp P a w' K qNone) : wpZ P ops z S R (f + 1) listed a w := by
  refine ⟨fun h0 => (by rw [h0] at hr; cases hr), fun m hm w' hx => ?_⟩
  rw [hr] at hm
  unfold wpOp
  rcases List.mem_cons.1 hm with rfl | hm
  · simp only [hi]
    rw [show Region.wanted oi (yielded ops a.tmps) = true by simp [Region.wanted, hgi], if_pos rfl]
    exact .inl (h1 w' hx _ fun a' w'' he hk => ⟨.inr he, hk⟩)
  · rcases List.mem_cons.1 hm with rfl | hm
    · simp only [hj]
      rw [show Region.wanted oj (yielded ops a.tmps) = true by simp [Region.wanted, hgj], if_pos rfl]
      exact .inl (h2 w' hx _ fun a' w'' he hk => ⟨.inr he, hk⟩)
    · obtain rfl : m = k := by simpa using hm
      simp only [hk]
      rw [show Region.wanted ok (yielded ops a.tmps) = true by simp [Region.wanted, hgk], if_pos rfl]
      exact .inl (h3 w' hx _ fun a' w'' he hk => ⟨.inr he, hk⟩)
end
theorem new_r19 (ts : List Int) (v : Value) (w : World) (hv : Ints w v ts) (hl : ts.length ≤ 8) (ht : ∀ x ∈ ts, 1 ≤ x ∧ x ≤ 10000) :
    Calls Try.prog 36 #[v] w fun e w' => ∃ gp va vb, e = .returned (.pointer (some ⟨gp, 0, none⟩)) ∧ Pol19 w' gp va vb (ts.map fun t => (t, -1)) ∧ Two w w' 111 gp #[va, vb] va vb ts (List.replicate ts.length (-1)) := by
  have hN : ∀ w', Ext w w' → Ints w' v ts := fun w' hx => hv.ext hx
  obtain ⟨A, c, rfl, hle, hcm, _⟩ := hv
  have HT := Lib.hid ht
  clear ht
  go_enter Try.func36, Try.ntmps36
  go_wp2_with (fail)
  have H0 : Two w (w.alloc (.cells #[.slice none 0 0, .slice none 0 0] 111)) 111 w.heap.size #[.slice none 0 0, .slice none 0 0] (.slice none 0 0) (.slice none 0 0) [] [] :=
    ⟨(Ext.refl w).alloc _, Nat.le_refl _, Blk.new _ _ _, OwnL.nil, OwnL.nil, fun k e => by cases e⟩
  go_loopw [4] (fun i wr => ∃ (k : Nat) (va vb : Value), k ≤ ts.length ∧ i = .int .i64 k ∧ Two w wr 111 w.heap.size #[va, vb] va vb (ts.take k) (List.replicate k (-1))) (fun i _ => ts.length - (intOf i).toNat)
  case atStart => exact ⟨0, _, _, by omega, rfl, H0⟩
  case round =>
    obtain ⟨k, va, vb, hk, rfl, H1⟩ := hrel
    clear H0
    by_cases hlt : k < ts.length
    · obtain ⟨b, o, rfl, hx⟩ := (hN w (Ext.refl w)).at hlt
      have hx0 := hx wr H1.ext
      have htk := HT.out _ (List.getElem_mem hlt)
      have HE := Lib.hid (show ts.take (k + 1) = ts.take k ++ [ts[k]] from List.take_succ_eq_append_getElem hlt)
      have HE2 := Lib.hid (show List.replicate (k + 1) (-1 : Int) = List.replicate k (-1) ++ [-1] from List.replicate_succ')
      have HLA := Lib.hid (show (ts.take k).length ≤ 8 by rw [List.length_take]; omega)
      have HLB := Lib.hid (show (List.replicate k (-1 : Int)).length ≤ 8 by rw [List.length_replicate]; omega)
      generalize ts[k] = x at *
      generalize ts.take k = xs at *
      generalize List.replicate k (-1 : Int) = ys at *
      obtain ⟨na, Aa, ca, rfl⟩ := own_sl H1.a
      obtain ⟨nb, Ab, cb, rfl⟩ := own_sl H1.b
      have hd1 : decide (x < 1) = false := decide_eq_false (by omega)
      have hd2 : decide (10000 < x) = false := decide_eq_false (by omega)
      go_upto_region 9 with (fail)
      have hs1 : ∀ w', SBox w w.heap.size (.slice Ab nb cb) w' → w'.cell? ⟨w.heap.size, 1, none⟩ = some (.slice Ab nb cb) := fun w' h => h.2
      have hs2 : ∀ w', SBox w w.heap.size (.slice Ab nb cb) w' → w'.cell? ⟨b, o + k, none⟩ = some (.int .i64 x) := fun w' h => hx w' h.1
      have H0 := H1
      refine wp_region_mixZ (T := [5, 10, 11, 16, 17, 20, 23]) (z := 23) (S := SBox w w.heap.size (.slice Ab nb cb)) (W := wr) (fun _ _ h hx => h.ext hx) (by kernel_rfl) (by kernel_rfl) (by kernel_rfl) (Ext.refl wr).drew H1.sb (fun _ _ h => h) (fun K hK => ?_)
      (repeat (first | (refine hX_skip ?_ ?_; (· rfl)) | (apply hX_and; (· rfl); (· rfl); (· rfl); (· rfl); (· rfl); simp only [Act.put, List.setIfInBounds_toArray, List.set_cons_zero, List.set_cons_succ]) | (apply hX_or; (· rfl); (· rfl); (· rfl); (· rfl); (· rfl); simp only [Act.put, List.setIfInBounds_toArray, List.set_cons_zero, List.set_cons_succ]) | (apply hX_off; (· rfl); (· rfl); (· rfl); simp only [Act.put, List.setIfInBounds_toArray, List.set_cons_zero, List.set_cons_succ]) | (apply hX_val; (· rfl); (· intro w hS; go_simp; with_reducible rfl); (· rfl); simp only [Act.put, List.setIfInBounds_toArray, List.set_cons_zero, List.set_cons_succ]) | (apply hX_call; (· rfl); (· rfl); (· intro w hS; go_simp; exact ⟨rfl, rfl⟩); (· intro w hS; fail); simp only [Act.put, List.setIfInBounds_toArray, List.set_cons_zero, List.set_cons_succ]) | (apply hX_if; (· rfl); (· rfl); (· rfl); (· intro hif w hS; go_simp; with_reducible rfl); simp only [Act.put, List.setIfInBounds_toArray, List.set_cons_zero, List.set_cons_succ]) | (apply hX_ifcall; (· rfl); (· rfl); (· rfl); (· intro hif w hS; go_simp; exact ⟨rfl, rfl⟩); (· intro hif w hS; fail); simp only [Act.put, List.setIfInBounds_toArray, List.set_cons_zero, List.set_cons_succ]))); refine hX_nil ?_
      refine hK _ ?_
      clear hK K
      refine wpZ_three (i := 5) (j := 10) (k := 16) (by kernel_rfl) rfl rfl rfl rfl rfl rfl ?_ ?_ ?_
      · intro wl hxl K hK
        have Gl := H0.to hxl
        have cl := Gl.box.cell
        go_simp
        refine hK _ _ Gl.sb ?_
        clear hK K cl
        have Hl := Gl
        refine wpZ_two (i := 10) (j := 16) (by kernel_rfl) rfl rfl rfl rfl ?_ ?_
        · intro wa hxa K hK
          go_simp
          have Ha := Hl.to (hxa.alloc (.cells #[.int .i64 x] 2))
          have hNa := Blk.new wa #[.int .i64 x] 2
          have hfa := (Hl.to hxa).fresh
          refine hK _ _ Ha.sb ?_
          clear hK K hxa
          generalize wa.heap.size = ga at hNa hfa ⊢
          generalize wa.alloc _ = Wa at Ha hNa ⊢
          refine wpZ_two (i := 11) (j := 16) (by kernel_rfl) rfl rfl rfl rfl ?_ ?_
          · intro wp hxp K hK
            have Gp := Ha.to hxp
            replace hNa := hNa.ext hxp
            refine wp_push _ _ 31 rfl w.heap.size 2 Try.underlying31 infoI64 rfl (by decide) (by decide) encI xs _ rfl Gp.a (x) ga #[.int .i64 x] 2 rfl hNa rfl rfl (encI_one _) (by have := HLA.out; omega) (by have := Gp.ext.size; omega) ?_
            intro vp yp hownp hgp hlocp _
            have Hp := Gp.appA (by decide) hgp hownp hlocp
            obtain ⟨np, Ap, cp, rfl⟩ := own_sl hownp
            refine hK _ _ Hp.sb ?_
            clear hK K hownp hgp hlocp
            refine wpZ_want (i := 16) (by kernel_rfl) rfl (by simp [Region.wanted, yielded]) ?_
            intro wb hxb K hK
            go_simp
            have Hb := Hp.to (hxb.alloc (.cells #[.int .i64 (-1)] 2))
            have hNb := Blk.new wb #[.int .i64 (-1)] 2
            have hfb := (Hp.to hxb).fresh
            refine hK _ _ Hb.sb ?_
            clear hK K hxb
            generalize wb.heap.size = gb at hNb hfb ⊢
            generalize wb.alloc _ = Wb at Hb hNb ⊢
            refine wpZ_want (i := 17) (by kernel_rfl) rfl (by simp [Region.wanted, yielded]) ?_
            intro wq hxq K hK
            have Gq := Hb.to hxq
            replace hNb := hNb.ext hxq
            refine wp_push _ _ 31 rfl w.heap.size 2 Try.underlying31 infoI64 rfl (by decide) (by decide) encI ys _ rfl Gq.b ((-1)) gb #[.int .i64 (-1)] 2 rfl hNb rfl rfl (encI_one _) (by have := HLB.out; omega) (by have := Gq.ext.size; omega) ?_
            intro vq yq hownq hgq hlocq _
            have Hq := Gq.appB (by decide) hgq hownq hlocq
            obtain ⟨nq, Aq, cq, rfl⟩ := own_sl hownq
            refine hK _ _ Hq.sb ?_
            clear hK K hownq hgq hlocq
            refine wpZ_want (i := 20) (by kernel_rfl) rfl (by simp [Region.wanted, yielded]) ?_
            intro ws hxs K hK
            have Gs := Hq.to hxs
            have cs := Gs.box.cell
            have fs := Gs.box.free
            go_simp
            have Hs := Gs.set (by decide) 0 (.slice Ap np cp) rfl
            refine hK _ _ Hs.sb ?_
            clear hK K cs fs
            generalize ws.setCell _ _ = Ys at Hs ⊢
            refine wpZ_last (by kernel_rfl) rfl (by simp [Region.wanted, yielded]) ?_
            intro wz hxz K hK
            have Gz := Hs.to hxz
            have cz := Gz.box.cell
            have fz := Gz.box.free
            go_simp
            have Hz := Gz.set (by decide) 1 (.slice Aq nq cq) rfl
            refine hK _ _ ?_
            clear hK K cz fz
            generalize wz.setCell _ _ = Yz at Hz ⊢
            refine wpZ_done (by kernel_rfl) (fun W13 hX13 => ?_) _
            have HZ := Hz.to hX13
            clear H0 Hz
            go_wp2_with (fail)
            exact ⟨⟨k + 1, _, _, hlt, rfl, by rw [HE.out, HE2.out]; exact HZ⟩, by simp [intOf]; omega⟩
          · intro wb hxb K hK
            go_simp
            have Hb := Ha.to (hxb.alloc (.cells #[.int .i64 (-1)] 2))
            have hNb := Blk.new wb #[.int .i64 (-1)] 2
            have hfb := (Ha.to hxb).fresh
            replace hNa := hNa.ext (hxb.alloc (.cells #[.int .i64 (-1)] 2))
            refine hK _ _ Hb.sb ?_
            clear hK K hxb
            generalize wb.heap.size = gb at hNb hfb ⊢
            generalize wb.alloc _ = Wb at Hb hNb hNa ⊢
            refine wpZ_want (i := 11) (by kernel_rfl) rfl (by simp [Region.wanted, yielded]) ?_
            intro wp hxp K hK
            have Gp := Hb.to hxp
            replace hNa := hNa.ext hxp
            replace hNb := hNb.ext hxp
            refine wp_push _ _ 31 rfl w.heap.size 2 Try.underlying31 infoI64 rfl (by decide) (by decide) encI xs _ rfl Gp.a (x) ga #[.int .i64 x] 2 rfl hNa rfl rfl (encI_one _) (by have := HLA.out; omega) (by have := Gp.ext.size; omega) ?_
            intro vp yp hownp hgp hlocp _
            have Hp := Gp.appA (by decide) hgp hownp hlocp
            replace hNb := hNb.grown hgp hfb.1
            obtain ⟨np, Ap, cp, rfl⟩ := own_sl hownp
            refine hK _ _ Hp.sb ?_
            clear hK K hownp hgp hlocp
            refine wpZ_want (i := 17) (by kernel_rfl) rfl (by simp [Region.wanted, yielded]) ?_
            intro wq hxq K hK
            have Gq := Hp.to hxq
            replace hNb := hNb.ext hxq
            refine wp_push _ _ 31 rfl w.heap.size 2 Try.underlying31 infoI64 rfl (by decide) (by decide) encI ys _ rfl Gq.b ((-1)) gb #[.int .i64 (-1)] 2 rfl hNb rfl rfl (encI_one _) (by have := HLB.out; omega) (by have := Gq.ext.size; omega) ?_
            intro vq yq hownq hgq hlocq _
            have Hq := Gq.appB (by decide) hgq hownq hlocq
            obtain ⟨nq, Aq, cq, rfl⟩ := own_sl hownq
            refine hK _ _ Hq.sb ?_
            clear hK K hownq hgq hlocq
            refine wpZ_want (i := 20) (by kernel_rfl) rfl (by simp [Region.wanted, yielded]) ?_
            intro ws hxs K hK
            have Gs := Hq.to hxs
            have cs := Gs.box.cell
            have fs := Gs.box.free
            go_simp
            have Hs := Gs.set (by decide) 0 (.slice Ap np cp) rfl
            refine hK _ _ Hs.sb ?_
            clear hK K cs fs
            generalize ws.setCell _ _ = Ys at Hs ⊢
            refine wpZ_last (by kernel_rfl) rfl (by simp [Region.wanted, yielded]) ?_
            intro wz hxz K hK
            have Gz := Hs.to hxz
            have cz := Gz.box.cell
            have fz := Gz.box.free
            go_simp
            have Hz := Gz.set (by decide) 1 (.slice Aq nq cq) rfl
            refine hK _ _ ?_
            clear hK K cz fz
            generalize wz.setCell _ _ = Yz at Hz ⊢
            refine wpZ_done (by kernel_rfl) (fun W13 hX13 => ?_) _
            have HZ := Hz.to hX13
            clear H0 Hz
            go_wp2_with (fail)
            exact ⟨⟨k + 1, _, _, hlt, rfl, by rw [HE.out, HE2.out]; exact HZ⟩, by simp [intOf]; omega⟩
        · intro wb hxb K hK
          go_simp
          have Hb := Hl.to (hxb.alloc (.cells #[.int .i64 (-1)] 2))
          have hNb := Blk.new wb #[.int .i64 (-1)] 2
          have hfb := (Hl.to hxb).fresh
          refine hK _ _ Hb.sb ?_
          clear hK K hxb
          generalize wb.heap.size = gb at hNb hfb ⊢
          generalize wb.alloc _ = Wb at Hb hNb ⊢
          refine wpZ_want (i := 10) (by kernel_rfl) rfl (by simp [Region.wanted, yielded]) ?_
          intro wa hxa K hK
          go_simp
          have Ha := Hb.to (hxa.alloc (.cells #[.int .i64 x] 2))
          have hNa := Blk.new wa #[.int .i64 x] 2
          have hfa := (Hb.to hxa).fresh
          replace hNb := hNb.ext (hxa.alloc (.cells #[.int .i64 x] 2))
          refine hK _ _ Ha.sb ?_
          clear hK K hxa
          generalize wa.heap.size = ga at hNa hfa ⊢
          generalize wa.alloc _ = Wa at Ha hNa hNb ⊢
          refine wpZ_want (i := 11) (by kernel_rfl) rfl (by simp [Region.wanted, yielded]) ?_
          intro wp hxp K hK
          have Gp := Ha.to hxp
          replace hNa := hNa.ext hxp
          replace hNb := hNb.ext hxp
          refine wp_push _ _ 31 rfl w.heap.size 2 Try.underlying31 infoI64 rfl (by decide) (by decide) encI xs _ rfl Gp.a (x) ga #[.int .i64 x] 2 rfl hNa rfl rfl (encI_one _) (by have := HLA.out; omega) (by have := Gp.ext.size; omega) ?_
          intro vp yp hownp hgp hlocp _
          have Hp := Gp.appA (by decide) hgp hownp hlocp
          replace hNb := hNb.grown hgp hfb.1
          obtain ⟨np, Ap, cp, rfl⟩ := own_sl hownp
          refine hK _ _ Hp.sb ?_
          clear hK K hownp hgp hlocp
          refine wpZ_want (i := 17) (by kernel_rfl) rfl (by simp [Region.wanted, yielded]) ?_
          intro wq hxq K hK
          have Gq := Hp.to hxq
          replace hNb := hNb.ext hxq
          refine wp_push _ _ 31 rfl w.heap.size 2 Try.underlying31 infoI64 rfl (by decide) (by decide) encI ys _ rfl Gq.b ((-1)) gb #[.int .i64 (-1)] 2 rfl hNb rfl rfl (encI_one _) (by have := HLB.out; omega) (by have := Gq.ext.size; omega) ?_
          intro vq yq hownq hgq hlocq _
          have Hq := Gq.appB (by decide) hgq hownq hlocq
          obtain ⟨nq, Aq, cq, rfl⟩ := own_sl hownq
          refine hK _ _ Hq.sb ?_
          clear hK K hownq hgq hlocq
          refine wpZ_want (i := 20) (by kernel_rfl) rfl (by simp [Region.wanted, yielded]) ?_
          intro ws hxs K hK
          have Gs := Hq.to hxs
          have cs := Gs.box.cell
          have fs := Gs.box.free
          go_simp
          have Hs := Gs.set (by decide) 0 (.slice Ap np cp) rfl
          refine hK _ _ Hs.sb ?_
          clear hK K cs fs
          generalize ws.setCell _ _ = Ys at Hs ⊢
          refine wpZ_last (by kernel_rfl) rfl (by simp [Region.wanted, yielded]) ?_
          intro wz hxz K hK
          have Gz := Hs.to hxz
          have cz := Gz.box.cell
          have fz := Gz.box.free
          go_simp
          have Hz := Gz.set (by decide) 1 (.slice Aq nq cq) rfl
          refine hK _ _ ?_
          clear hK K cz fz
          generalize wz.setCell _ _ = Yz at Hz ⊢
          refine wpZ_done (by kernel_rfl) (fun W13 hX13 => ?_) _
          have HZ := Hz.to hX13
          clear H0 Hz
          go_wp2_with (fail)
          exact ⟨⟨k + 1, _, _, hlt, rfl, by rw [HE.out, HE2.out]; exact HZ⟩, by simp [intOf]; omega⟩
      · intro wa hxa K hK
        go_simp
        have Ha := H0.to (hxa.alloc (.cells #[.int .i64 x] 2))
        have hNa := Blk.new wa #[.int .i64 x] 2
        have hfa := (H0.to hxa).fresh
        refine hK _ _ Ha.sb ?_
        clear hK K hxa
        generalize wa.heap.size = ga at hNa hfa ⊢
        generalize wa.alloc _ = Wa at Ha hNa ⊢
        refine wpZ_two (i := 5) (j := 16) (by kernel_rfl) rfl rfl rfl rfl ?_ ?_
        · intro wl hxl K hK
          have Gl := Ha.to hxl
          replace hNa := hNa.ext hxl
          have cl := Gl.box.cell
          go_simp
          refine hK _ _ Gl.sb ?_
          clear hK K cl
          have Hl := Gl
          refine wpZ_two (i := 11) (j := 16) (by kernel_rfl) rfl rfl rfl rfl ?_ ?_
          · intro wp hxp K hK
            have Gp := Hl.to hxp
            replace hNa := hNa.ext hxp
            refine wp_push _ _ 31 rfl w.heap.size 2 Try.underlying31 infoI64 rfl (by decide) (by decide) encI xs _ rfl Gp.a (x) ga #[.int .i64 x] 2 rfl hNa rfl rfl (encI_one _) (by have := HLA.out; omega) (by have := Gp.ext.size; omega) ?_
            intro vp yp hownp hgp hlocp _
            have Hp := Gp.appA (by decide) hgp hownp hlocp
            obtain ⟨np, Ap, cp, rfl⟩ := own_sl hownp
            refine hK _ _ Hp.sb ?_
            clear hK K hownp hgp hlocp
            refine wpZ_want (i := 16) (by kernel_rfl) rfl (by simp [Region.wanted, yielded]) ?_
            intro wb hxb K hK
            go_simp
            have Hb := Hp.to (hxb.alloc (.cells #[.int .i64 (-1)] 2))
            have hNb := Blk.new wb #[.int .i64 (-1)] 2
            have hfb := (Hp.to hxb).fresh
            refine hK _ _ Hb.sb ?_
            clear hK K hxb
            generalize wb.heap.size = gb at hNb hfb ⊢
            generalize wb.alloc _ = Wb at Hb hNb ⊢
            refine wpZ_want (i := 17) (by kernel_rfl) rfl (by simp [Region.wanted, yielded]) ?_
            intro wq hxq K hK
            have Gq := Hb.to hxq
            replace hNb := hNb.ext hxq
            refine wp_push _ _ 31 rfl w.heap.size 2 Try.underlying31 infoI64 rfl (by decide) (by decide) encI ys _ rfl Gq.b ((-1)) gb #[.int .i64 (-1)] 2 rfl hNb rfl rfl (encI_one _) (by have := HLB.out; omega) (by have := Gq.ext.size; omega) ?_
            intro vq yq hownq hgq hlocq _
            have Hq := Gq.appB (by decide) hgq hownq hlocq
            obtain ⟨nq, Aq, cq, rfl⟩ := own_sl hownq
            refine hK _ _ Hq.sb ?_
            clear hK K hownq hgq hlocq
            refine wpZ_want (i := 20) (by kernel_rfl) rfl (by simp [Region.wanted, yielded]) ?_
            intro ws hxs K hK
            have Gs := Hq.to hxs
            have cs := Gs.box.cell
            have fs := Gs.box.free
            go_simp
            have Hs := Gs.set (by decide) 0 (.slice Ap np cp) rfl
            refine hK _ _ Hs.sb ?_
            clear hK K cs fs
            generalize ws.setCell _ _ = Ys at Hs ⊢
            refine wpZ_last (by kernel_rfl) rfl (by simp [Region.wanted, yielded]) ?_
            intro wz hxz K hK
            have Gz := Hs.to hxz
            have cz := Gz.box.cell
            have fz := Gz.box.free
            go_simp
            have Hz := Gz.set (by decide) 1 (.slice Aq nq cq) rfl
            refine hK _ _ ?_
            clear hK K cz fz
            generalize wz.setCell _ _ = Yz at Hz ⊢
            refine wpZ_done (by kernel_rfl) (fun W13 hX13 => ?_) _
            have HZ := Hz.to hX13
            clear H0 Hz
            go_wp2_with (fail)
            exact ⟨⟨k + 1, _, _, hlt, rfl, by rw [HE.out, HE2.out]; exact HZ⟩, by simp [intOf]; omega⟩
          · intro wb hxb K hK
            go_simp
            have Hb := Hl.to (hxb.alloc (.cells #[.int .i64 (-1)] 2))
            have hNb := Blk.new wb #[.int .i64 (-1)] 2
            have hfb := (Hl.to hxb).fresh
            replace hNa := hNa.ext (hxb.alloc (.cells #[.int .i64 (-1)] 2))
            refine hK _ _ Hb.sb ?_
            clear hK K hxb
            generalize wb.heap.size = gb at hNb hfb ⊢
            generalize wb.alloc _ = Wb at Hb hNb hNa ⊢
            refine wpZ_want (i := 11) (by kernel_rfl) rfl (by simp [Region.wanted, yielded]) ?_
            intro wp hxp K hK
            have Gp := Hb.to hxp
            replace hNa := hNa.ext hxp
            replace hNb := hNb.ext hxp
            refine wp_push _ _ 31 rfl w.heap.size 2 Try.underlying31 infoI64 rfl (by decide) (by decide) encI xs _ rfl Gp.a (x) ga #[.int .i64 x] 2 rfl hNa rfl rfl (encI_one _) (by have := HLA.out; omega) (by have := Gp.ext.size; omega) ?_
            intro vp yp hownp hgp hlocp _
            have Hp := Gp.appA (by decide) hgp hownp hlocp
            replace hNb := hNb.grown hgp hfb.1
            obtain ⟨np, Ap, cp, rfl⟩ := own_sl hownp
            refine hK _ _ Hp.sb ?_
            clear hK K hownp hgp hlocp
            refine wpZ_want (i := 17) (by kernel_rfl) rfl (by simp [Region.wanted, yielded]) ?_
            intro wq hxq K hK
            have Gq := Hp.to hxq
            replace hNb := hNb.ext hxq
            refine wp_push _ _ 31 rfl w.heap.size 2 Try.underlying31 infoI64 rfl (by decide) (by decide) encI ys _ rfl Gq.b ((-1)) gb #[.int .i64 (-1)] 2 rfl hNb rfl rfl (encI_one _) (by have := HLB.out; omega) (by have := Gq.ext.size; omega) ?_
            intro vq yq hownq hgq hlocq _
            have Hq := Gq.appB (by decide) hgq hownq hlocq
            obtain ⟨nq, Aq, cq, rfl⟩ := own_sl hownq
            refine hK _ _ Hq.sb ?_
            clear hK K hownq hgq hlocq
            refine wpZ_want (i := 20) (by kernel_rfl) rfl (by simp [Region.wanted, yielded]) ?_
            intro ws hxs K hK
            have Gs := Hq.to hxs
            have cs := Gs.box.cell
            have fs := Gs.box.free
            go_simp
            have Hs := Gs.set (by decide) 0 (.slice Ap np cp) rfl
            refine hK _ _ Hs.sb ?_
            clear hK K cs fs
            generalize ws.setCell _ _ = Ys at Hs ⊢
            refine wpZ_last (by kernel_rfl) rfl (by simp [Region.wanted, yielded]) ?_
            intro wz hxz K hK
            have Gz := Hs.to hxz
            have cz := Gz.box.cell
            have fz := Gz.box.free
            go_simp
            have Hz := Gz.set (by decide) 1 (.slice Aq nq cq) rfl
            refine hK _ _ ?_
            clear hK K cz fz
            generalize wz.setCell _ _ = Yz at Hz ⊢
            refine wpZ_done (by kernel_rfl) (fun W13 hX13 => ?_) _
            have HZ := Hz.to hX13
            clear H0 Hz
            go_wp2_with (fail)
            exact ⟨⟨k + 1, _, _, hlt, rfl, by rw [HE.out, HE2.out]; exact HZ⟩, by simp [intOf]; omega⟩
        · intro wb hxb K hK
          go_simp
          have Hb := Ha.to (hxb.alloc (.cells #[.int .i64 (-1)] 2))
          have hNb := Blk.new wb #[.int .i64 (-1)] 2
          have hfb := (Ha.to hxb).fresh
          replace hNa := hNa.ext (hxb.alloc (.cells #[.int .i64 (-1)] 2))
          refine hK _ _ Hb.sb ?_
          clear hK K hxb
          generalize wb.heap.size = gb at hNb hfb ⊢
          generalize wb.alloc _ = Wb at Hb hNb hNa ⊢
          refine wpZ_want (i := 5) (by kernel_rfl) rfl (by simp [Region.wanted, yielded]) ?_
          intro wl hxl K hK
          have Gl := Hb.to hxl
          replace hNa := hNa.ext hxl
          replace hNb := hNb.ext hxl
          have cl := Gl.box.cell
          go_simp
          refine hK _ _ Gl.sb ?_
          clear hK K cl
          have Hl := Gl
          refine wpZ_want (i := 11) (by kernel_rfl) rfl (by simp [Region.wanted, yielded]) ?_
          intro wp hxp K hK
          have Gp := Hl.to hxp
          replace hNa := hNa.ext hxp
          replace hNb := hNb.ext hxp
          refine wp_push _ _ 31 rfl w.heap.size 2 Try.underlying31 infoI64 rfl (by decide) (by decide) encI xs _ rfl Gp.a (x) ga #[.int .i64 x] 2 rfl hNa rfl rfl (encI_one _) (by have := HLA.out; omega) (by have := Gp.ext.size; omega) ?_
          intro vp yp hownp hgp hlocp _
          have Hp := Gp.appA (by decide) hgp hownp hlocp
          replace hNb := hNb.grown hgp hfb.1
          obtain ⟨np, Ap, cp, rfl⟩ := own_sl hownp
          refine hK _ _ Hp.sb ?_
          clear hK K hownp hgp hlocp
          refine wpZ_want (i := 17) (by kernel_rfl) rfl (by simp [Region.wanted, yielded]) ?_
          intro wq hxq K hK
          have Gq := Hp.to hxq
          replace hNb := hNb.ext hxq
          refine wp_push _ _ 31 rfl w.heap.size 2 Try.underlying31 infoI64 rfl (by decide) (by decide) encI ys _ rfl Gq.b ((-1)) gb #[.int .i64 (-1)] 2 rfl hNb rfl rfl (encI_one _) (by have := HLB.out; omega) (by have := Gq.ext.size; omega) ?_
          intro vq yq hownq hgq hlocq _
          have Hq := Gq.appB (by decide) hgq hownq hlocq
          obtain ⟨nq, Aq, cq, rfl⟩ := own_sl hownq
          refine hK _ _ Hq.sb ?_
          clear hK K hownq hgq hlocq
          refine wpZ_want (i := 20) (by kernel_rfl) rfl (by simp [Region.wanted, yielded]) ?_
          intro ws hxs K hK
          have Gs := Hq.to hxs
          have cs := Gs.box.cell
          have fs := Gs.box.free
          go_simp
          have Hs := Gs.set (by decide) 0 (.slice Ap np cp) rfl
          refine hK _ _ Hs.sb ?_
          clear hK K cs fs
          generalize ws.setCell _ _ = Ys at Hs ⊢
          refine wpZ_last (by kernel_rfl) rfl (by simp [Region.wanted, yielded]) ?_
          intro wz hxz K hK
          have Gz := Hs.to hxz
          have cz := Gz.box.cell
          have fz := Gz.box.free
          go_simp
          have Hz := Gz.set (by decide) 1 (.slice Aq nq cq) rfl
          refine hK _ _ ?_
          clear hK K cz fz
          generalize wz.setCell _ _ = Yz at Hz ⊢
          refine wpZ_done (by kernel_rfl) (fun W13 hX13 => ?_) _
          have HZ := Hz.to hX13
          clear H0 Hz
          go_wp2_with (fail)
          exact ⟨⟨k + 1, _, _, hlt, rfl, by rw [HE.out, HE2.out]; exact HZ⟩, by simp [intOf]; omega⟩
      · intro wb hxb K hK
        go_simp
        have Hb := H0.to (hxb.alloc (.cells #[.int .i64 (-1)] 2))
        have hNb := Blk.new wb #[.int .i64 (-1)] 2
        have hfb := (H0.to hxb).fresh
        refine hK _ _ Hb.sb ?_
        clear hK K hxb
        generalize wb.heap.size = gb at hNb hfb ⊢
        generalize wb.alloc _ = Wb at Hb hNb ⊢
        refine wpZ_two (i := 5) (j := 10) (by kernel_rfl) rfl rfl rfl rfl ?_ ?_
        · intro wl hxl K hK
          have Gl := Hb.to hxl
          replace hNb := hNb.ext hxl
          have cl := Gl.box.cell
          go_simp
          refine hK _ _ Gl.sb ?_
          clear hK K cl
          have Hl := Gl
          refine wpZ_want (i := 10) (by kernel_rfl) rfl (by simp [Region.wanted, yielded]) ?_
          intro wa hxa K hK
          go_simp
          have Ha := Hl.to (hxa.alloc (.cells #[.int .i64 x] 2))
          have hNa := Blk.new wa #[.int .i64 x] 2
          have hfa := (Hl.to hxa).fresh
          replace hNb := hNb.ext (hxa.alloc (.cells #[.int .i64 x] 2))
          refine hK _ _ Ha.sb ?_
          clear hK K hxa
          generalize wa.heap.size = ga at hNa hfa ⊢
          generalize wa.alloc _ = Wa at Ha hNa hNb ⊢
          refine wpZ_want (i := 11) (by kernel_rfl) rfl (by simp [Region.wanted, yielded]) ?_
          intro wp hxp K hK
          have Gp := Ha.to hxp
          replace hNa := hNa.ext hxp
          replace hNb := hNb.ext hxp
          refine wp_push _ _ 31 rfl w.heap.size 2 Try.underlying31 infoI64 rfl (by decide) (by decide) encI xs _ rfl Gp.a (x) ga #[.int .i64 x] 2 rfl hNa rfl rfl (encI_one _) (by have := HLA.out; omega) (by have := Gp.ext.size; omega) ?_
          intro vp yp hownp hgp hlocp _
          have Hp := Gp.appA (by decide) hgp hownp hlocp
          replace hNb := hNb.grown hgp hfb.1
          obtain ⟨np, Ap, cp, rfl⟩ := own_sl hownp
          refine hK _ _ Hp.sb ?_
          clear hK K hownp hgp hlocp
          refine wpZ_want (i := 17) (by kernel_rfl) rfl (by simp [Region.wanted, yielded]) ?_
          intro wq hxq K hK
          have Gq := Hp.to hxq
          replace hNb := hNb.ext hxq
          refine wp_push _ _ 31 rfl w.heap.size 2 Try.underlying31 infoI64 rfl (by decide) (by decide) encI ys _ rfl Gq.b ((-1)) gb #[.int .i64 (-1)] 2 rfl hNb rfl rfl (encI_one _) (by have := HLB.out; omega) (by have := Gq.ext.size; omega) ?_
          intro vq yq hownq hgq hlocq _
          have Hq := Gq.appB (by decide) hgq hownq hlocq
          obtain ⟨nq, Aq, cq, rfl⟩ := own_sl hownq
          refine hK _ _ Hq.sb ?_
          clear hK K hownq hgq hlocq
          refine wpZ_want (i := 20) (by kernel_rfl) rfl (by simp [Region.wanted, yielded]) ?_
          intro ws hxs K hK
          have Gs := Hq.to hxs
          have cs := Gs.box.cell
          have fs := Gs.box.free
          go_simp
          have Hs := Gs.set (by decide) 0 (.slice Ap np cp) rfl
          refine hK _ _ Hs.sb ?_
          clear hK K cs fs
          generalize ws.setCell _ _ = Ys at Hs ⊢
          refine wpZ_last (by kernel_rfl) rfl (by simp [Region.wanted, yielded]) ?_
          intro wz hxz K hK
          have Gz := Hs.to hxz
          have cz := Gz.box.cell
          have fz := Gz.box.free
          go_simp
          have Hz := Gz.set (by decide) 1 (.slice Aq nq cq) rfl
          refine hK _ _ ?_
          clear hK K cz fz
          generalize wz.setCell _ _ = Yz at Hz ⊢
          refine wpZ_done (by kernel_rfl) (fun W13 hX13 => ?_) _
          have HZ := Hz.to hX13
          clear H0 Hz
          go_wp2_with (fail)
          exact ⟨⟨k + 1, _, _, hlt, rfl, by rw [HE.out, HE2.out]; exact HZ⟩, by simp [intOf]; omega⟩
        · intro wa hxa K hK
          go_simp
          have Ha := Hb.to (hxa.alloc (.cells #[.int .i64 x] 2))
          have hNa := Blk.new wa #[.int .i64 x] 2
          have hfa := (Hb.to hxa).fresh
          replace hNb := hNb.ext (hxa.alloc (.cells #[.int .i64 x] 2))
          refine hK _ _ Ha.sb ?_
          clear hK K hxa
          generalize wa.heap.size = ga at hNa hfa ⊢
          generalize wa.alloc _ = Wa at Ha hNa hNb ⊢
          refine wpZ_want (i := 5) (by kernel_rfl) rfl (by simp [Region.wanted, yielded]) ?_
          intro wl hxl K hK
          have Gl := Ha.to hxl
          replace hNa := hNa.ext hxl
          replace hNb := hNb.ext hxl
          have cl := Gl.box.cell
          go_simp
          refine hK _ _ Gl.sb ?_
          clear hK K cl
          have Hl := Gl
          refine wpZ_want (i := 11) (by kernel_rfl) rfl (by simp [Region.wanted, yielded]) ?_
          intro wp hxp K hK
          have Gp := Hl.to hxp
          replace hNa := hNa.ext hxp
          replace hNb := hNb.ext hxp
          refine wp_push _ _ 31 rfl w.heap.size 2 Try.underlying31 infoI64 rfl (by decide) (by decide) encI xs _ rfl Gp.a (x) ga #[.int .i64 x] 2 rfl hNa rfl rfl (encI_one _) (by have := HLA.out; omega) (by have := Gp.ext.size; omega) ?_
          intro vp yp hownp hgp hlocp _
          have Hp := Gp.appA (by decide) hgp hownp hlocp
          replace hNb := hNb.grown hgp hfb.1
          obtain ⟨np, Ap, cp, rfl⟩ := own_sl hownp
          refine hK _ _ Hp.sb ?_
          clear hK K hownp hgp hlocp
          refine wpZ_want (i := 17) (by kernel_rfl) rfl (by simp [Region.wanted, yielded]) ?_
          intro wq hxq K hK
          have Gq := Hp.to hxq
          replace hNb := hNb.ext hxq
          refine wp_push _ _ 31 rfl w.heap.size 2 Try.underlying31 infoI64 rfl (by decide) (by decide) encI ys _ rfl Gq.b ((-1)) gb #[.int .i64 (-1)] 2 rfl hNb rfl rfl (encI_one _) (by have := HLB.out; omega) (by have := Gq.ext.size; omega) ?_
          intro vq yq hownq hgq hlocq _
          have Hq := Gq.appB (by decide) hgq hownq hlocq
          obtain ⟨nq, Aq, cq, rfl⟩ := own_sl hownq
          refine hK _ _ Hq.sb ?_
          clear hK K hownq hgq hlocq
          refine wpZ_want (i := 20) (by kernel_rfl) rfl (by simp [Region.wanted, yielded]) ?_
          intro ws hxs K hK
          have Gs := Hq.to hxs
          have cs := Gs.box.cell
          have fs := Gs.box.free
          go_simp
          have Hs := Gs.set (by decide) 0 (.slice Ap np cp) rfl
          refine hK _ _ Hs.sb ?_
          clear hK K cs fs
          generalize ws.setCell _ _ = Ys at Hs ⊢
          refine wpZ_last (by kernel_rfl) rfl (by simp [Region.wanted, yielded]) ?_
          intro wz hxz K hK
          have Gz := Hs.to hxz
          have cz := Gz.box.cell
          have fz := Gz.box.free
          go_simp
          have Hz := Gz.set (by decide) 1 (.slice Aq nq cq) rfl
          refine hK _ _ ?_
          clear hK K cz fz
          generalize wz.setCell _ _ = Yz at Hz ⊢
          refine wpZ_done (by kernel_rfl) (fun W13 hX13 => ?_) _
          have HZ := Hz.to hX13
          clear H0 Hz
          go_wp2_with (fail)
          exact ⟨⟨k + 1, _, _, hlt, rfl, by rw [HE.out, HE2.out]; exact HZ⟩, by simp [intOf]; omega⟩
    · obtain rfl : k = ts.length := by omega
      rw [List.take_length] at H1
      have HH := Lib.hid H1
      clear H1
      go_wp2_with (fail)
      go_ret
      refine ⟨_, va, vb, rfl, ⟨HH.out.box, OwnL.lower (b := 0) (by rw [List.map_map, show ts.map ((fun p : Int × Int => p.1) ∘ fun t => (t, -1)) = ts from List.map_id ts]; exact HH.out.a) (Nat.zero_le _), OwnL.lower (b := 0) (by rw [List.map_map]; rw [show (ts.map ((fun p : Int × Int => p.2) ∘ fun t => (t, -1))) = List.replicate ts.length (-1) from List.map_const ..]; exact HH.out.b) (Nat.zero_le _), HH.out.ne, by rw [List.length_map]; exact hl, fun p hp => ?_⟩, HH.out⟩
      obtain ⟨t, ht, rfl⟩ := List.mem_map.1 hp
      have := HT.out t ht
      dsimp only
      omega
end Go.Proofs.Ytlaflbepidkmnaa
/- The document's job (ref20). -/
namespace Go.Proofs.Ytlaflbepidkmnaa
open Go.RowKit
attribute [local go_sem] setCell_twice Ext.alloc Ext.drew
set_option linter.unusedSimpArgs false
set_option linter.unusedVariables false
set_option maxRecDepth 100000
set_option maxHeartbeats 1600000
attribute [local irreducible] Calls

/-- the document's job at gj; its rows lie at base or above -/
structure JobB20 (w : World) (base gj : Nat) (vr vd : Value) (tk : Int) (j : Jb) : Prop where
  box : Blk w gj #[vr, vd, .int .i64 j.k, .int .i64 j.n, .int .i64 tk, .int .i64 j.how] 133
  r : RowI w base vr j.r
  d : RowI w base vd j.d
def JobR (w : World) (base gj : Nat) (j : Jb) : Prop := ∃ vr vd tk, JobB20 w base gj vr vd tk j
theorem JobB20.chg {F : Nat → Prop} {w w' : World} {base gj : Nat} {vr vd : Value} {tk : Int} {j : Jb} (h : JobB20 w base gj vr vd tk j) (hx : Chg F w w') (h1 : ¬ F gj) (h2 : ∀ k, vr.ownBlock = some k → ¬ F k) (h3 : ∀ k, vd.ownBlock = some k → ¬ F k) : JobB20 w' base gj vr vd tk j :=
  ⟨h.box.chg hx h1, OwnL.chg h.r hx h2, OwnL.chg h.d hx h3⟩
/-- a change of blocks that are not this job and not rows of numbers from base on -/
theorem JobR.chg {F : Nat → Prop} {w w' : World} {base gj : Nat} {j : Jb} (h : JobR w base gj j) (hx : Chg F w w') (h1 : ¬ F gj) (h2 : ∀ k cs, base ≤ k → Blk w k cs 2 → ¬ F k) : JobR w' base gj j := by
  obtain ⟨vr, vd, tk, h⟩ := h
  refine ⟨vr, vd, tk, h.chg hx h1 (fun k hk => ?_) (fun k hk => ?_)⟩
  · obtain ⟨cs, hB⟩ := OwnL.block h.r hk; exact h2 k cs (OwnL.lt h.r k hk).1 hB
  · obtain ⟨cs, hB⟩ := OwnL.block h.d hk; exact h2 k cs (OwnL.lt h.d k hk).1 hB
theorem JobR.ext {w w' : World} {base gj : Nat} {j : Jb} (h : JobR w base gj j) (hx : Ext w w') : JobR w' base gj j := h.chg (F := fun _ => False) (Chg.of_ext hx) (fun f => f) (fun _ _ _ _ f => f)
theorem JobB20.set {w : World} {base gj i : Nat} {vr vd : Value} {tk : Int} {j : Jb} (h : JobB20 w base gj vr vd tk j) (u : Value) {cs : Array Value} (he : (#[vr, vd, .int .i64 j.k, .int .i64 j.n, .int .i64 tk, .int .i64 j.how] : Array Value).setIfInBounds i u = cs) :
    Blk (w.setCell ⟨gj, i, none⟩ u) gj cs 133 ∧ RowI (w.setCell ⟨gj, i, none⟩ u) base vr j.r ∧ RowI (w.setCell ⟨gj, i, none⟩ u) base vd j.d := by
  refine ⟨?_, ?_, ?_⟩
  · rw [← he]; exact Blk.set h.box i u
  · exact OwnL.set h.r (a := ⟨gj, i, none⟩) (own_ne_blk h.r h.box (by decide)) u
  · exact OwnL.set h.d (a := ⟨gj, i, none⟩) (own_ne_blk h.d h.box (by decide)) u
theorem JobB20.drewN {w : World} {base gj : Nat} {vr vd : Value} {tk : Int} {j : Jb} (h : JobB20 w base gj vr vd tk j) (n : Nat) : JobB20 (w.drewN n) base gj vr vd tk j := ⟨h.box, h.r, h.d⟩
theorem mid_r20 (base gj : Nat) (j : Jb) (w : World) (h : JobR w base gj j) :
    Calls Try.prog 69 #[.pointer (some ⟨gj, 0, none⟩)] w fun e w' => e = .returned (.bool j.mid) ∧ w = w' := by
  obtain ⟨vr, vd, tk, hB, _, _⟩ := h
  have c3 := hB.cell 3
  simp only [List.getElem?_toArray, List.getElem?_cons_zero, List.getElem?_cons_succ] at c3
  go_enter Try.func69, Try.ntmps69
  go_wp2_with (fail)
  go_ret
  exact ⟨rfl, by first | trivial | rfl⟩
theorem step_r20 (base gj : Nat) (rs : List Int) (j : Jb) (w : World) (h : JobR w base gj j) (hk : JOk rs j) (hr : ∀ x ∈ rs, 1 ≤ x ∧ x ≤ 10000) (hl : rs.length ≤ 8) :
    Calls Try.prog 66 #[.pointer (some ⟨gj, 0, none⟩)] w fun e w' => e = .returned (.tuple #[.int .i64 j.step.2.1, .int .i64 j.step.2.2]) ∧ JobR w' base gj j.step.1 ∧ Chg (fun q => q = gj) w w' := by
  obtain ⟨vr, vd, tk, hJ⟩ := h
  obtain ⟨e1, e2, _, e3, e4, e5⟩ := hk
  have hrk := hr _ (getD_mem (l := rs) e4 0)
  obtain ⟨r, d, k, n, how⟩ := j
  dsimp only at e1 e2 e3 e4 e5
  subst e1 e3
  dsimp only at hrk
  obtain ⟨hn0, hn1, hn2⟩ := e5
  have hn3 : n < 10000 := by omega
  have hB := hJ.box
  have c2 := hB.cell 2
  have c3 := hB.cell 3
  have c4 := hB.cell 4
  have c5 := hB.cell 5
  have f3 := Blk.free hB 3
  have f4 := Blk.free hB 4
  simp only [List.getElem?_toArray, List.getElem?_cons_zero, List.getElem?_cons_succ] at c2 c3 c4 c5
  go_enter Try.func66, Try.ntmps66
  go_upto_region 6 with (fail)
  have j1 := hJ.set (i := 3) (.int .i64 (n + 1)) rfl
  have hJ1 : JobB20 (w.setCell ⟨gj, 3, none⟩ (.int .i64 (n + 1))) base gj vr vd tk ⟨r, d, k, n + 1, 0⟩ := ⟨j1.1, j1.2.1, j1.2.2⟩
  have j2 := hJ1.set (i := 4) (.int .i64 (wrap64 (tk + 1))) rfl
  have hJ2 : JobB20 ((w.setCell ⟨gj, 3, none⟩ (.int .i64 (n + 1))).setCell ⟨gj, 4, none⟩ (.int .i64 (wrap64 (tk + 1)))) base gj vr vd (wrap64 (tk + 1)) ⟨r, d, k, n + 1, 0⟩ := ⟨j2.1, j2.2.1, j2.2.2⟩
  have hC2 := ((Chg.refl (fun q => q = gj) w).set (i := 3) (.inl rfl) (.int .i64 (n + 1))).set (i := 4) (.inl rfl) (.int .i64 (wrap64 (tk + 1)))
  clear j1 j2 hJ1 hJ hB f3 f4 c2 c3 c4 c5
  generalize (w.setCell ⟨gj, 3, none⟩ (.int .i64 (n + 1))).setCell ⟨gj, 4, none⟩ (.int .i64 (wrap64 (tk + 1))) = W2 at hJ2 hC2 ⊢
  generalize wrap64 (tk + 1) = tk2 at hJ2 ⊢
  obtain ⟨br, obr, cr, rfl, hr1, hr2, xr⟩ := row_at (OwnL.lower hJ2.r (Nat.zero_le _)) e4
  obtain ⟨bd, od, cd, rfl, hd1, hd2, xd⟩ := row_at (k := k) (OwnL.lower hJ2.d (Nat.zero_le _)) (by dsimp only; omega)
  dsimp only at xr xd hr1 hd1
  have hB := hJ2.box
  have c0 := hB.cell 0
  have c1 := hB.cell 1
  have c2 := hB.cell 2
  have c3 := hB.cell 3
  have c5 := hB.cell 5
  have f2 := Blk.free hB 2
  have f3 := Blk.free hB 3
  have f5 := Blk.free hB 5
  simp only [List.getElem?_toArray, List.getElem?_cons_zero, List.getElem?_cons_succ] at c0 c1 c2 c3 c5
  have hS : Hid (Jb.step ⟨r, d, k, n, 0⟩ = if n + 1 = d.getD k 0 then (if k + 1 = r.length then (⟨r, d, k + 1, 0, 2⟩, (k : Int), 2) else (⟨r, d, k + 1, 0, 0⟩, (k : Int), 1)) else if n + 1 = r.getD k 0 then (⟨r, d, k, n + 1, 3⟩, (k : Int), 3) else (⟨r, d, k, n + 1, 0⟩, (k : Int), 0)) := Lib.hid rfl
  have HJ := Lib.hid hJ2
  have HC := Lib.hid hC2
  clear hJ2 hC2 hr
  generalize d.getD k 0 = dk at *
  generalize r.getD k 0 = rk at *
  generalize r.length = rl at *
  have hm : d.length = rl := e2
  generalize d.length = dl at *
  subst hm
  by_cases q1 : n + 1 = dk
  · have q1d : (n + 1 == dk) = true := by simp [q1]
    have hE := hS.out
    rw [if_pos q1] at hE
    have HE := Lib.hid hE
    clear hE hS q1
    go_quiet (fail)
    go_upto_region 9 with (fail)
    have j4 := (HJ.out.drewN nq).set (i := 2) (.int .i64 ((k : Int) + 1)) (cs := #[.slice (some ⟨br, obr, none⟩) dl cr, .slice (some ⟨bd, od, none⟩) dl cd, .int .i64 ((k + 1 : Nat) : Int), .int .i64 (n + 1), .int .i64 tk2, .int .i64 0]) rfl
    have J4 : JobB20 ((W2.drewN nq).setCell ⟨gj, 2, none⟩ (.int .i64 ((k : Int) + 1))) base gj (.slice (some ⟨br, obr, none⟩) dl cr) (.slice (some ⟨bd, od, none⟩) dl cd) tk2 ⟨r, d, k + 1, n + 1, 0⟩ := ⟨j4.1, j4.2.1, j4.2.2⟩
    have j5 := J4.set (i := 3) (.int .i64 0) rfl
    have J5 : JobB20 (((W2.drewN nq).setCell ⟨gj, 2, none⟩ (.int .i64 ((k : Int) + 1))).setCell ⟨gj, 3, none⟩ (.int .i64 0)) base gj (.slice (some ⟨br, obr, none⟩) dl cr) (.slice (some ⟨bd, od, none⟩) dl cd) tk2 ⟨r, d, k + 1, 0, 0⟩ := ⟨j5.1, j5.2.1, j5.2.2⟩
    have C5 := ((HC.out.drewN nq).set (g := gj) (i := 2) (.inl rfl) (.int .i64 ((k : Int) + 1))).set (g := gj) (i := 3) (.inl rfl) (.int .i64 0)
    clear j4 J4 j5 hB c0 c1 c2 c3 c5 f2 f3 f5
    generalize ((W2.drewN nq).setCell ⟨gj, 2, none⟩ (.int .i64 ((k : Int) + 1))).setCell ⟨gj, 3, none⟩ (.int .i64 0) = W4 at J5 C5 ⊢
    have hB4 := J5.box
    have d0 := hB4.cell 0
    have d2 := hB4.cell 2
    have d5 := hB4.cell 5
    have f5 := Blk.free hB4 5
    simp only [List.getElem?_toArray, List.getElem?_cons_zero, List.getElem?_cons_succ] at d0 d2 d5
    have HJ5 := Lib.hid J5
    have HC5 := Lib.hid C5
    clear J5 C5 hB4
    by_cases q2 : k + 1 = dl
    · have q2d : ((k : Int) + 1 == (dl : Int)) = true := by simp; omega
      have q2e : (((k + 1 : Nat) : Int) == (dl : Int)) = true := by simp; omega
      have hE := HE.out
      rw [if_pos q2] at hE
      have HE3 := Lib.hid hE
      clear hE q2
      go_quiet (fail)
      go_wp2_with (fail)
      refine bodyPost_ret (v := .tuple #[.int .i64 k, .int .i64 2]) (by simp [results, Try.results66, go_sem, *]) rfl ?_
      rw [HE3.out]
      have j6 := fun m => (HJ5.out.drewN m).set (i := 5) (.int .i64 2) rfl
      exact ⟨rfl, ⟨_, _, _, ⟨(j6 _).1, (j6 _).2.1, (j6 _).2.2⟩⟩, (HC5.out.drewN _).set (.inl rfl) _⟩
    · have q2d : ((k : Int) + 1 == (dl : Int)) = false := by simp; omega
      have q2e : (((k + 1 : Nat) : Int) == (dl : Int)) = false := by simp; omega
      have hE := HE.out
      rw [if_neg q2] at hE
      have HE3 := Lib.hid hE
      clear hE
      go_quiet (fail)
      go_wp2_with (fail)
      refine bodyPost_ret (v := .tuple #[.int .i64 k, .int .i64 1]) (by simp [results, Try.results66, go_sem, *]) rfl ?_
      rw [HE3.out]
      exact ⟨rfl, ⟨_, _, _, HJ5.out.drewN _⟩, HC5.out.drewN _⟩
  · have q1d : (n + 1 == dk) = false := by simp [q1]
    by_cases q3 : n + 1 = rk
    · have q3d : (n + 1 == rk) = true := by simp [q3]
      have hE := hS.out
      rw [if_neg q1, if_pos q3] at hE
      have HE := Lib.hid hE
      clear hE hS q3
      go_quiet (fail)
      go_wp2_with (fail)
      go_quiet (fail)
      go_wp2_with (fail)
      refine bodyPost_ret (v := .tuple #[.int .i64 k, .int .i64 3]) (by simp [results, Try.results66, go_sem, *]) rfl ?_
      rw [HE.out]
      have j3 := fun m => (HJ.out.drewN m).set (i := 5) (.int .i64 3) rfl
      exact ⟨rfl, ⟨_, _, _, ⟨(j3 _).1, (j3 _).2.1, (j3 _).2.2⟩⟩, (HC.out.drewN _).set (.inl rfl) _⟩
    · have q3d : (n + 1 == rk) = false := by simp [q3]
      have hE := hS.out
      rw [if_neg q1, if_neg q3] at hE
      have HE := Lib.hid hE
      clear hE
      go_quiet (fail)
      go_wp2_with (fail)
      go_quiet (fail)
      go_wp2_with (fail)
      refine bodyPost_ret (v := .tuple #[.int .i64 k, .int .i64 0]) (by simp [results, Try.results66, go_sem, *]) rfl ?_
      rw [HE.out]
      exact ⟨rfl, ⟨_, _, _, (HJ.out.drewN _).drewN _⟩, (HC.out.drewN _).drewN _⟩
theorem new_r20 (rs ds : List Int) (v vd : Value) (w : World) (hv : Ints w v rs) (hd : Ints w vd ds) (hl : 1 ≤ rs.length ∧ rs.length ≤ 8) (hr : ∀ x ∈ rs, 1 ≤ x ∧ x ≤ 10000) :
    Calls Try.prog 57 #[v, vd] w fun e w' => ∃ g, e = .returned (.pointer (some ⟨g, 0, none⟩)) ∧ w.heap.size ≤ g ∧ JobR w' w.heap.size g (newJ rs ds) ∧ Ext w w' := by
  have hN : ∀ w', Ext w w' → Ints w' v rs := fun w' hx => hv.ext hx
  have hD : ∀ w', Ext w w' → Ints w' vd ds := fun w' hx => hd.ext hx
  obtain ⟨A, c, rfl, hle, hcm, _⟩ := hv
  obtain ⟨A2, c2, rfl, hle2, hcm2, _⟩ := hd
  unfold maxLen at hcm2
  obtain ⟨hl1, hl2⟩ := hl
  have HT := Lib.hid hr
  have HD := Lib.hid hD
  clear hr hD
  have hp1 : decide ((rs.length : Int) < 1) = false := decide_eq_false (by omega)
  have hp2 : decide (8 < (rs.length : Int)) = false := decide_eq_false (by omega)
  go_enter Try.func57, Try.ntmps57
  go_wp2_with (fail)
  have H0 : Two w (w.alloc (.cells #[.slice none 0 0, .slice none 0 0, .int .i64 0, .int .i64 0, .int .i64 0, .int .i64 0] 133)) 133 w.heap.size #[.slice none 0 0, .slice none 0 0, .int .i64 0, .int .i64 0, .int .i64 0, .int .i64 0] (.slice none 0 0) (.slice none 0 0) [] [] :=
    ⟨(Ext.refl w).alloc _, Nat.le_refl _, Blk.new _ _ _, OwnL.nil, OwnL.nil, fun k e => by cases e⟩
  go_loopw [6] (fun i wr => ∃ (k : Nat) (va vb : Value), k ≤ rs.length ∧ i = .int .i64 k ∧ Two w wr 133 w.heap.size #[va, vb, .int .i64 0, .int .i64 0, .int .i64 0, .int .i64 0] va vb (rs.take k) ((List.range k).map (demL ds))) (fun i _ => rs.length - (intOf i).toNat)
  case atStart => exact ⟨0, _, _, by omega, rfl, H0⟩
  case round =>
    obtain ⟨k, va, vb, hk, rfl, H1⟩ := hrel
    clear H0
    by_cases hlt : k < rs.length
    · obtain ⟨b, o, rfl, hx⟩ := (hN w (Ext.refl w)).at hlt
      have hx0 := hx wr H1.ext
      have htk := HT.out _ (List.getElem_mem hlt)
      have HE := Lib.hid (show rs.take (k + 1) = rs.take k ++ [rs[k]] from List.take_succ_eq_append_getElem hlt)
      have HE2 := Lib.hid (dem_step rs ds k)
      have HLA := Lib.hid (show (rs.take k).length ≤ 8 by rw [List.length_take]; omega)
      have HLB := Lib.hid (show ((List.range k).map (demL ds)).length ≤ 8 by simp; omega)
      generalize rs[k] = x at *
      generalize rs.take k = xs at *
      generalize (List.range k).map (demL ds) = ys at *
      obtain ⟨na, Aa, ca, rfl⟩ := own_sl H1.a
      obtain ⟨nb, Ab, cb, rfl⟩ := own_sl H1.b
      have hd1 : decide (x < 1) = false := decide_eq_false (by omega)
      have hd2 : decide (10000 < x) = false := decide_eq_false (by omega)
      by_cases hkd : k < ds.length
      · obtain ⟨b2, o2, rfl, hy⟩ := (HD.out w (Ext.refl w)).at hkd
        have hy0 := hy wr H1.ext
        have hdv : demL ds k = max 1 ds[k] := by unfold demL; rw [getD_at hkd]
        generalize ds[k] = z at *
        clear hy
        generalize hd : demL ds k = d at *
        have hdz := Lib.hid hdv
        have hkd2 : (k : Int) < (ds.length : Int) := by omega
        clear hdv hd
        go_upto_region 12 with (fail)
        rw [← hdz.out]
        have hs1 : ∀ w', SBox w w.heap.size (.slice Ab nb cb) w' → w'.cell? ⟨w.heap.size, 1, none⟩ = some (.slice Ab nb cb) := fun w' h => h.2
        have hs2 : ∀ w', SBox w w.heap.size (.slice Ab nb cb) w' → w'.cell? ⟨b, o + k, none⟩ = some (.int .i64 x) := fun w' h => hx w' h.1
        have H0 := H1
        refine wp_region_mixZ (T := [5, 10, 11, 17, 18, 21, 24]) (z := 24) (S := SBox w w.heap.size (.slice Ab nb cb)) (W := wr) (fun _ _ h hx => h.ext hx) (by kernel_rfl) (by kernel_rfl) (by kernel_rfl) (Ext.refl wr).drew H1.sb (fun _ _ h => h) (fun K hK => ?_)
        (repeat (first | (refine hX_skip ?_ ?_; (· rfl)) | (apply hX_and; (· rfl); (· rfl); (· rfl); (· rfl); (· rfl); simp only [Act.put, List.setIfInBounds_toArray, List.set_cons_zero, List.set_cons_succ]) | (apply hX_or; (· rfl); (· rfl); (· rfl); (· rfl); (· rfl); simp only [Act.put, List.setIfInBounds_toArray, List.set_cons_zero, List.set_cons_succ]) | (apply hX_off; (· rfl); (· rfl); (· rfl); simp only [Act.put, List.setIfInBounds_toArray, List.set_cons_zero, List.set_cons_succ]) | (apply hX_val; (· rfl); (· intro w hS; go_simp; with_reducible rfl); (· rfl); simp only [Act.put, List.setIfInBounds_toArray, List.set_cons_zero, List.set_cons_succ]) | (apply hX_call; (· rfl); (· rfl); (· intro w hS; go_simp; exact ⟨rfl, rfl⟩); (· intro w hS; fail); simp only [Act.put, List.setIfInBounds_toArray, List.set_cons_zero, List.set_cons_succ]) | (apply hX_if; (· rfl); (· rfl); (· rfl); (· intro hif w hS; go_simp; with_reducible rfl); simp only [Act.put, List.setIfInBounds_toArray, List.set_cons_zero, List.set_cons_succ]) | (apply hX_ifcall; (· rfl); (· rfl); (· rfl); (· intro hif w hS; go_simp; exact ⟨rfl, rfl⟩); (· intro hif w hS; fail); simp only [Act.put, List.setIfInBounds_toArray, List.set_cons_zero, List.set_cons_succ]))); refine hX_nil ?_
        refine hK _ ?_
        clear hK K
        refine wpZ_three (i := 5) (j := 10) (k := 17) (by kernel_rfl) rfl rfl rfl rfl rfl rfl ?_ ?_ ?_
        · intro wl hxl K hK
          have Gl := H0.to hxl
          have cl := Gl.box.cell
          go_simp
          refine hK _ _ Gl.sb ?_
          clear hK K cl
          have Hl := Gl
          refine wpZ_two (i := 10) (j := 17) (by kernel_rfl) rfl rfl rfl rfl ?_ ?_
          · intro wa hxa K hK
            go_simp
            have Ha := Hl.to (hxa.alloc (.cells #[.int .i64 x] 2))
            have hNa := Blk.new wa #[.int .i64 x] 2
            have hfa := (Hl.to hxa).fresh
            refine hK _ _ Ha.sb ?_
            clear hK K hxa
            generalize wa.heap.size = ga at hNa hfa ⊢
            generalize wa.alloc _ = Wa at Ha hNa ⊢
            refine wpZ_two (i := 11) (j := 17) (by kernel_rfl) rfl rfl rfl rfl ?_ ?_
            · intro wp hxp K hK
              have Gp := Ha.to hxp
              replace hNa := hNa.ext hxp
              refine wp_push _ _ 31 rfl w.heap.size 2 Try.underlying31 infoI64 rfl (by decide) (by decide) encI xs _ rfl Gp.a (x) ga #[.int .i64 x] 2 rfl hNa rfl rfl (encI_one _) (by have := HLA.out; omega) (by have := Gp.ext.size; omega) ?_
              intro vp yp hownp hgp hlocp _
              have Hp := Gp.appA (by decide) hgp hownp hlocp
              obtain ⟨np, Ap, cp, rfl⟩ := own_sl hownp
              refine hK _ _ Hp.sb ?_
              clear hK K hownp hgp hlocp
              refine wpZ_want (i := 17) (by kernel_rfl) rfl (by simp [Region.wanted, yielded]) ?_
              intro wb hxb K hK
              go_simp
              have Hb := Hp.to (hxb.alloc (.cells #[.int .i64 d] 2))
              have hNb := Blk.new wb #[.int .i64 d] 2
              have hfb := (Hp.to hxb).fresh
              refine hK _ _ Hb.sb ?_
              clear hK K hxb
              generalize wb.heap.size = gb at hNb hfb ⊢
              generalize wb.alloc _ = Wb at Hb hNb ⊢
              refine wpZ_want (i := 18) (by kernel_rfl) rfl (by simp [Region.wanted, yielded]) ?_
              intro wq hxq K hK
              have Gq := Hb.to hxq
              replace hNb := hNb.ext hxq
              refine wp_push _ _ 31 rfl w.heap.size 2 Try.underlying31 infoI64 rfl (by decide) (by decide) encI ys _ rfl Gq.b (d) gb #[.int .i64 d] 2 rfl hNb rfl rfl (encI_one _) (by have := HLB.out; omega) (by have := Gq.ext.size; omega) ?_
              intro vq yq hownq hgq hlocq _
              have Hq := Gq.appB (by decide) hgq hownq hlocq
              obtain ⟨nq, Aq, cq, rfl⟩ := own_sl hownq
              refine hK _ _ Hq.sb ?_
              clear hK K hownq hgq hlocq
              refine wpZ_want (i := 21) (by kernel_rfl) rfl (by simp [Region.wanted, yielded]) ?_
              intro ws hxs K hK
              have Gs := Hq.to hxs
              have cs := Gs.box.cell
              have fs := Gs.box.free
              go_simp
              have Hs := Gs.set (by decide) 0 (.slice Ap np cp) rfl
              refine hK _ _ Hs.sb ?_
              clear hK K cs fs
              generalize ws.setCell _ _ = Ys at Hs ⊢
              refine wpZ_last (by kernel_rfl) rfl (by simp [Region.wanted, yielded]) ?_
              intro wz hxz K hK
              have Gz := Hs.to hxz
              have cz := Gz.box.cell
              have fz := Gz.box.free
              go_simp
              have Hz := Gz.set (by decide) 1 (.slice Aq nq cq) rfl
              refine hK _ _ ?_
              clear hK K cz fz
              generalize wz.setCell _ _ = Yz at Hz ⊢
              refine wpZ_done (by kernel_rfl) (fun W13 hX13 => ?_) _
              have HZ := Hz.to hX13
              clear H0 Hz
              go_wp2_with (fail)
              exact ⟨⟨k + 1, _, _, hlt, rfl, by rw [HE.out, HE2.out]; exact HZ⟩, by simp [intOf]; omega⟩
            · intro wb hxb K hK
              go_simp
              have Hb := Ha.to (hxb.alloc (.cells #[.int .i64 d] 2))
              have hNb := Blk.new wb #[.int .i64 d] 2
              have hfb := (Ha.to hxb).fresh
              replace hNa := hNa.ext (hxb.alloc (.cells #[.int .i64 d] 2))
              refine hK _ _ Hb.sb ?_
              clear hK K hxb
              generalize wb.heap.size = gb at hNb hfb ⊢
              generalize wb.alloc _ = Wb at Hb hNb hNa ⊢
              refine wpZ_want (i := 11) (by kernel_rfl) rfl (by simp [Region.wanted, yielded]) ?_
              intro wp hxp K hK
              have Gp := Hb.to hxp
              replace hNa := hNa.ext hxp
              replace hNb := hNb.ext hxp
              refine wp_push _ _ 31 rfl w.heap.size 2 Try.underlying31 infoI64 rfl (by decide) (by decide) encI xs _ rfl Gp.a (x) ga #[.int .i64 x] 2 rfl hNa rfl rfl (encI_one _) (by have := HLA.out; omega) (by have := Gp.ext.size; omega) ?_
              intro vp yp hownp hgp hlocp _
              have Hp := Gp.appA (by decide) hgp hownp hlocp
              replace hNb := hNb.grown hgp hfb.1
              obtain ⟨np, Ap, cp, rfl⟩ := own_sl hownp
              refine hK _ _ Hp.sb ?_
              clear hK K hownp hgp hlocp
              refine wpZ_want (i := 18) (by kernel_rfl) rfl (by simp [Region.wanted, yielded]) ?_
              intro wq hxq K hK
              have Gq := Hp.to hxq
              replace hNb := hNb.ext hxq
              refine wp_push _ _ 31 rfl w.heap.size 2 Try.underlying31 infoI64 rfl (by decide) (by decide) encI ys _ rfl Gq.b (d) gb #[.int .i64 d] 2 rfl hNb rfl rfl (encI_one _) (by have := HLB.out; omega) (by have := Gq.ext.size; omega) ?_
              intro vq yq hownq hgq hlocq _
              have Hq := Gq.appB (by decide) hgq hownq hlocq
              obtain ⟨nq, Aq, cq, rfl⟩ := own_sl hownq
              refine hK _ _ Hq.sb ?_
              clear hK K hownq hgq hlocq
              refine wpZ_want (i := 21) (by kernel_rfl) rfl (by simp [Region.wanted, yielded]) ?_
              intro ws hxs K hK
              have Gs := Hq.to hxs
              have cs := Gs.box.cell
              have fs := Gs.box.free
              go_simp
              have Hs := Gs.set (by decide) 0 (.slice Ap np cp) rfl
              refine hK _ _ Hs.sb ?_
              clear hK K cs fs
              generalize ws.setCell _ _ = Ys at Hs ⊢
              refine wpZ_last (by kernel_rfl) rfl (by simp [Region.wanted, yielded]) ?_
              intro wz hxz K hK
              have Gz := Hs.to hxz
              have cz := Gz.box.cell
              have fz := Gz.box.free
              go_simp
              have Hz := Gz.set (by decide) 1 (.slice Aq nq cq) rfl
              refine hK _ _ ?_
              clear hK K cz fz
              generalize wz.setCell _ _ = Yz at Hz ⊢
              refine wpZ_done (by kernel_rfl) (fun W13 hX13 => ?_) _
              have HZ := Hz.to hX13
              clear H0 Hz
              go_wp2_with (fail)
              exact ⟨⟨k + 1, _, _, hlt, rfl, by rw [HE.out, HE2.out]; exact HZ⟩, by simp [intOf]; omega⟩
          · intro wb hxb K hK
            go_simp
            have Hb := Hl.to (hxb.alloc (.cells #[.int .i64 d] 2))
            have hNb := Blk.new wb #[.int .i64 d] 2
            have hfb := (Hl.to hxb).fresh
            refine hK _ _ Hb.sb ?_
            clear hK K hxb
            generalize wb.heap.size = gb at hNb hfb ⊢
            generalize wb.alloc _ = Wb at Hb hNb ⊢
            refine wpZ_want (i := 10) (by kernel_rfl) rfl (by simp [Region.wanted, yielded]) ?_
            intro wa hxa K hK
            go_simp
            have Ha := Hb.to (hxa.alloc (.cells #[.int .i64 x] 2))
            have hNa := Blk.new wa #[.int .i64 x] 2
            have hfa := (Hb.to hxa).fresh
            replace hNb := hNb.ext (hxa.alloc (.cells #[.int .i64 x] 2))
            refine hK _ _ Ha.sb ?_
            clear hK K hxa
            generalize wa.heap.size = ga at hNa hfa ⊢
            generalize wa.alloc _ = Wa at Ha hNa hNb ⊢
            refine wpZ_want (i := 11) (by kernel_rfl) rfl (by simp [Region.wanted, yielded]) ?_
            intro wp hxp K hK
            have Gp := Ha.to hxp
            replace hNa := hNa.ext hxp
            replace hNb := hNb.ext hxp
            refine wp_push _ _ 31 rfl w.heap.size 2 Try.underlying31 infoI64 rfl (by decide) (by decide) encI xs _ rfl Gp.a (x) ga #[.int .i64 x] 2 rfl hNa rfl rfl (encI_one _) (by have := HLA.out; omega) (by have := Gp.ext.size; omega) ?_
            intro vp yp hownp hgp hlocp _
            have Hp := Gp.appA (by decide) hgp hownp hlocp
            replace hNb := hNb.grown hgp hfb.1
            obtain ⟨np, Ap, cp, rfl⟩ := own_sl hownp
            refine hK _ _ Hp.sb ?_
            clear hK K hownp hgp hlocp
            refine wpZ_want (i := 18) (by kernel_rfl) rfl (by simp [Region.wanted, yielded]) ?_
            intro wq hxq K hK
            have Gq := Hp.to hxq
            replace hNb := hNb.ext hxq
            refine wp_push _ _ 31 rfl w.heap.size 2 Try.underlying31 infoI64 rfl (by decide) (by decide) encI ys _ rfl Gq.b (d) gb #[.int .i64 d] 2 rfl hNb rfl rfl (encI_one _) (by have := HLB.out; omega) (by have := Gq.ext.size; omega) ?_
            intro vq yq hownq hgq hlocq _
            have Hq := Gq.appB (by decide) hgq hownq hlocq
            obtain ⟨nq, Aq, cq, rfl⟩ := own_sl hownq
            refine hK _ _ Hq.sb ?_
            clear hK K hownq hgq hlocq
            refine wpZ_want (i := 21) (by kernel_rfl) rfl (by simp [Region.wanted, yielded]) ?_
            intro ws hxs K hK
            have Gs := Hq.to hxs
            have cs := Gs.box.cell
            have fs := Gs.box.free
            go_simp
            have Hs := Gs.set (by decide) 0 (.slice Ap np cp) rfl
            refine hK _ _ Hs.sb ?_
            clear hK K cs fs
            generalize ws.setCell _ _ = Ys at Hs ⊢
            refine wpZ_last (by kernel_rfl) rfl (by simp [Region.wanted, yielded]) ?_
            intro wz hxz K hK
            have Gz := Hs.to hxz
            have cz := Gz.box.cell
            have fz := Gz.box.free
            go_simp
            have Hz := Gz.set (by decide) 1 (.slice Aq nq cq) rfl
            refine hK _ _ ?_
            clear hK K cz fz
            generalize wz.setCell _ _ = Yz at Hz ⊢
            refine wpZ_done (by kernel_rfl) (fun W13 hX13 => ?_) _
            have HZ := Hz.to hX13
            clear H0 Hz
            go_wp2_with (fail)
            exact ⟨⟨k + 1, _, _, hlt, rfl, by rw [HE.out, HE2.out]; exact HZ⟩, by simp [intOf]; omega⟩
        · intro wa hxa K hK
          go_simp
          have Ha := H0.to (hxa.alloc (.cells #[.int .i64 x] 2))
          have hNa := Blk.new wa #[.int .i64 x] 2
          have hfa := (H0.to hxa).fresh
          refine hK _ _ Ha.sb ?_
          clear hK K hxa
          generalize wa.heap.size = ga at hNa hfa ⊢
          generalize wa.alloc _ = Wa at Ha hNa ⊢
          refine wpZ_two (i := 5) (j := 17) (by kernel_rfl) rfl rfl rfl rfl ?_ ?_
          · intro wl hxl K hK
            have Gl := Ha.to hxl
            replace hNa := hNa.ext hxl
            have cl := Gl.box.cell
            go_simp
            refine hK _ _ Gl.sb ?_
            clear hK K cl
            have Hl := Gl
            refine wpZ_two (i := 11) (j := 17) (by kernel_rfl) rfl rfl rfl rfl ?_ ?_
            · intro wp hxp K hK
              have Gp := Hl.to hxp
              replace hNa := hNa.ext hxp
              refine wp_push _ _ 31 rfl w.heap.size 2 Try.underlying31 infoI64 rfl (by decide) (by decide) encI xs _ rfl Gp.a (x) ga #[.int .i64 x] 2 rfl hNa rfl rfl (encI_one _) (by have := HLA.out; omega) (by have := Gp.ext.size; omega) ?_
              intro vp yp hownp hgp hlocp _
              have Hp := Gp.appA (by decide) hgp hownp hlocp
              obtain ⟨np, Ap, cp, rfl⟩ := own_sl hownp
              refine hK _ _ Hp.sb ?_
              clear hK K hownp hgp hlocp
              refine wpZ_want (i := 17) (by kernel_rfl) rfl (by simp [Region.wanted, yielded]) ?_
              intro wb hxb K hK
              go_simp
              have Hb := Hp.to (hxb.alloc (.cells #[.int .i64 d] 2))
              have hNb := Blk.new wb #[.int .i64 d] 2
              have hfb := (Hp.to hxb).fresh
              refine hK _ _ Hb.sb ?_
              clear hK K hxb
              generalize wb.heap.size = gb at hNb hfb ⊢
              generalize wb.alloc _ = Wb at Hb hNb ⊢
              refine wpZ_want (i := 18) (by kernel_rfl) rfl (by simp [Region.wanted, yielded]) ?_
              intro wq hxq K hK
              have Gq := Hb.to hxq
              replace hNb := hNb.ext hxq
              refine wp_push _ _ 31 rfl w.heap.size 2 Try.underlying31 infoI64 rfl (by decide) (by decide) encI ys _ rfl Gq.b (d) gb #[.int .i64 d] 2 rfl hNb rfl rfl (encI_one _) (by have := HLB.out; omega) (by have := Gq.ext.size; omega) ?_
              intro vq yq hownq hgq hlocq _
              have Hq := Gq.appB (by decide) hgq hownq hlocq
              obtain ⟨nq, Aq, cq, rfl⟩ := own_sl hownq
              refine hK _ _ Hq.sb ?_
              clear hK K hownq hgq hlocq
              refine wpZ_want (i := 21) (by kernel_rfl) rfl (by simp [Region.wanted, yielded]) ?_
              intro ws hxs K hK
              have Gs := Hq.to hxs
              have cs := Gs.box.cell
              have fs := Gs.box.free
              go_simp
              have Hs := Gs.set (by decide) 0 (.slice Ap np cp) rfl
              refine hK _ _ Hs.sb ?_
              clear hK K cs fs
              generalize ws.setCell _ _ = Ys at Hs ⊢
              refine wpZ_last (by kernel_rfl) rfl (by simp [Region.wanted, yielded]) ?_
              intro wz hxz K hK
              have Gz := Hs.to hxz
              have cz := Gz.box.cell
              have fz := Gz.box.free
              go_simp
              have Hz := Gz.set (by decide) 1 (.slice Aq nq cq) rfl
              refine hK _ _ ?_
              clear hK K cz fz
              generalize wz.setCell _ _ = Yz at Hz ⊢
              refine wpZ_done (by kernel_rfl) (fun W13 hX13 => ?_) _
              have HZ := Hz.to hX13
              clear H0 Hz
              go_wp2_with (fail)
              exact ⟨⟨k + 1, _, _, hlt, rfl, by rw [HE.out, HE2.out]; exact HZ⟩, by simp [intOf]; omega⟩
            · intro wb hxb K hK
              go_simp
              have Hb := Hl.to (hxb.alloc (.cells #[.int .i64 d] 2))
              have hNb := Blk.new wb #[.int .i64 d] 2
              have hfb := (Hl.to hxb).fresh
              replace hNa := hNa.ext (hxb.alloc (.cells #[.int .i64 d] 2))
              refine hK _ _ Hb.sb ?_
              clear hK K hxb
              generalize wb.heap.size = gb at hNb hfb ⊢
              generalize wb.alloc _ = Wb at Hb hNb hNa ⊢
              refine wpZ_want (i := 11) (by kernel_rfl) rfl (by simp [Region.wanted, yielded]) ?_
              intro wp hxp K hK
              have Gp := Hb.to hxp
              replace hNa := hNa.ext hxp
              replace hNb := hNb.ext hxp
              refine wp_push _ _ 31 rfl w.heap.size 2 Try.underlying31 infoI64 rfl (by decide) (by decide) encI xs _ rfl Gp.a (x) ga #[.int .i64 x] 2 rfl hNa rfl rfl (encI_one _) (by have := HLA.out; omega) (by have := Gp.ext.size; omega) ?_
              intro vp yp hownp hgp hlocp _
              have Hp := Gp.appA (by decide) hgp hownp hlocp
              replace hNb := hNb.grown hgp hfb.1
              obtain ⟨np, Ap, cp, rfl⟩ := own_sl hownp
              refine hK _ _ Hp.sb ?_
              clear hK K hownp hgp hlocp
              refine wpZ_want (i := 18) (by kernel_rfl) rfl (by simp [Region.wanted, yielded]) ?_
              intro wq hxq K hK
              have Gq := Hp.to hxq
              replace hNb := hNb.ext hxq
              refine wp_push _ _ 31 rfl w.heap.size 2 Try.underlying31 infoI64 rfl (by decide) (by decide) encI ys _ rfl Gq.b (d) gb #[.int .i64 d] 2 rfl hNb rfl rfl (encI_one _) (by have := HLB.out; omega) (by have := Gq.ext.size; omega) ?_
              intro vq yq hownq hgq hlocq _
              have Hq := Gq.appB (by decide) hgq hownq hlocq
              obtain ⟨nq, Aq, cq, rfl⟩ := own_sl hownq
              refine hK _ _ Hq.sb ?_
              clear hK K hownq hgq hlocq
              refine wpZ_want (i := 21) (by kernel_rfl) rfl (by simp [Region.wanted, yielded]) ?_
              intro ws hxs K hK
              have Gs := Hq.to hxs
              have cs := Gs.box.cell
              have fs := Gs.box.free
              go_simp
              have Hs := Gs.set (by decide) 0 (.slice Ap np cp) rfl
              refine hK _ _ Hs.sb ?_
              clear hK K cs fs
              generalize ws.setCell _ _ = Ys at Hs ⊢
              refine wpZ_last (by kernel_rfl) rfl (by simp [Region.wanted, yielded]) ?_
              intro wz hxz K hK
              have Gz := Hs.to hxz
              have cz := Gz.box.cell
              have fz := Gz.box.free
              go_simp
              have Hz := Gz.set (by decide) 1 (.slice Aq nq cq) rfl
              refine hK _ _ ?_
              clear hK K cz fz
              generalize wz.setCell _ _ = Yz at Hz ⊢
              refine wpZ_done (by kernel_rfl) (fun W13 hX13 => ?_) _
              have HZ := Hz.to hX13
              clear H0 Hz
              go_wp2_with (fail)
              exact ⟨⟨k + 1, _, _, hlt, rfl, by rw [HE.out, HE2.out]; exact HZ⟩, by simp [intOf]; omega⟩
          · intro wb hxb K hK
            go_simp
            have Hb := Ha.to (hxb.alloc (.cells #[.int .i64 d] 2))
            have hNb := Blk.new wb #[.int .i64 d] 2
            have hfb := (Ha.to hxb).fresh
            replace hNa := hNa.ext (hxb.alloc (.cells #[.int .i64 d] 2))
            refine hK _ _ Hb.sb ?_
            clear hK K hxb
            generalize wb.heap.size = gb at hNb hfb ⊢
            generalize wb.alloc _ = Wb at Hb hNb hNa ⊢
            refine wpZ_want (i := 5) (by kernel_rfl) rfl (by simp [Region.wanted, yielded]) ?_
            intro wl hxl K hK
            have Gl := Hb.to hxl
            replace hNa := hNa.ext hxl
            replace hNb := hNb.ext hxl
            have cl := Gl.box.cell
            go_simp
            refine hK _ _ Gl.sb ?_
            clear hK K cl
            have Hl := Gl
            refine wpZ_want (i := 11) (by kernel_rfl) rfl (by simp [Region.wanted, yielded]) ?_
            intro wp hxp K hK
            have Gp := Hl.to hxp
            replace hNa := hNa.ext hxp
            replace hNb := hNb.ext hxp
            refine wp_push _ _ 31 rfl w.heap.size 2 Try.underlying31 infoI64 rfl (by decide) (by decide) encI xs _ rfl Gp.a (x) ga #[.int .i64 x] 2 rfl hNa rfl rfl (encI_one _) (by have := HLA.out; omega) (by have := Gp.ext.size; omega) ?_
            intro vp yp hownp hgp hlocp _
            have Hp := Gp.appA (by decide) hgp hownp hlocp
            replace hNb := hNb.grown hgp hfb.1
            obtain ⟨np, Ap, cp, rfl⟩ := own_sl hownp
            refine hK _ _ Hp.sb ?_
            clear hK K hownp hgp hlocp
            refine wpZ_want (i := 18) (by kernel_rfl) rfl (by simp [Region.wanted, yielded]) ?_
            intro wq hxq K hK
            have Gq := Hp.to hxq
            replace hNb := hNb.ext hxq
            refine wp_push _ _ 31 rfl w.heap.size 2 Try.underlying31 infoI64 rfl (by decide) (by decide) encI ys _ rfl Gq.b (d) gb #[.int .i64 d] 2 rfl hNb rfl rfl (encI_one _) (by have := HLB.out; omega) (by have := Gq.ext.size; omega) ?_
            intro vq yq hownq hgq hlocq _
            have Hq := Gq.appB (by decide) hgq hownq hlocq
            obtain ⟨nq, Aq, cq, rfl⟩ := own_sl hownq
            refine hK _ _ Hq.sb ?_
            clear hK K hownq hgq hlocq
            refine wpZ_want (i := 21) (by kernel_rfl) rfl (by simp [Region.wanted, yielded]) ?_
            intro ws hxs K hK
            have Gs := Hq.to hxs
            have cs := Gs.box.cell
            have fs := Gs.box.free
            go_simp
            have Hs := Gs.set (by decide) 0 (.slice Ap np cp) rfl
            refine hK _ _ Hs.sb ?_
            clear hK K cs fs
            generalize ws.setCell _ _ = Ys at Hs ⊢
            refine wpZ_last (by kernel_rfl) rfl (by simp [Region.wanted, yielded]) ?_
            intro wz hxz K hK
            have Gz := Hs.to hxz
            have cz := Gz.box.cell
            have fz := Gz.box.free
            go_simp
            have Hz := Gz.set (by decide) 1 (.slice Aq nq cq) rfl
            refine hK _ _ ?_
            clear hK K cz fz
            generalize wz.setCell _ _ = Yz at Hz ⊢
            refine wpZ_done (by kernel_rfl) (fun W13 hX13 => ?_) _
            have HZ := Hz.to hX13
            clear H0 Hz
            go_wp2_with (fail)
            exact ⟨⟨k + 1, _, _, hlt, rfl, by rw [HE.out, HE2.out]; exact HZ⟩, by simp [intOf]; omega⟩
        · intro wb hxb K hK
          go_simp
          have Hb := H0.to (hxb.alloc (.cells #[.int .i64 d] 2))
          have hNb := Blk.new wb #[.int .i64 d] 2
          have hfb := (H0.to hxb).fresh
          refine hK _ _ Hb.sb ?_
          clear hK K hxb
          generalize wb.heap.size = gb at hNb hfb ⊢
          generalize wb.alloc _ = Wb at Hb hNb ⊢
          refine wpZ_two (i := 5) (j := 10) (by kernel_rfl) rfl rfl rfl rfl ?_ ?_
          · intro wl hxl K hK
            have Gl := Hb.to hxl
            replace hNb := hNb.ext hxl
            have cl := Gl.box.cell
            go_simp
            refine hK _ _ Gl.sb ?_
            clear hK K cl
            have Hl := Gl
            refine wpZ_want (i := 10) (by kernel_rfl) rfl (by simp [Region.wanted, yielded]) ?_
            intro wa hxa K hK
            go_simp
            have Ha := Hl.to (hxa.alloc (.cells #[.int .i64 x] 2))
            have hNa := Blk.new wa #[.int .i64 x] 2
            have hfa := (Hl.to hxa).fresh
            replace hNb := hNb.ext (hxa.alloc (.cells #[.int .i64 x] 2))
            refine hK _ _ Ha.sb ?_
            clear hK K hxa
            generalize wa.heap.size = ga at hNa hfa ⊢
            generalize wa.alloc _ = Wa at Ha hNa hNb ⊢
            refine wpZ_want (i := 11) (by kernel_rfl) rfl (by simp [Region.wanted, yielded]) ?_
            intro wp hxp K hK
            have Gp := Ha.to hxp
            replace hNa := hNa.ext hxp
            replace hNb := hNb.ext hxp
            refine wp_push _ _ 31 rfl w.heap.size 2 Try.underlying31 infoI64 rfl (by decide) (by decide) encI xs _ rfl Gp.a (x) ga #[.int .i64 x] 2 rfl hNa rfl rfl (encI_one _) (by have := HLA.out; omega) (by have := Gp.ext.size; omega) ?_
            intro vp yp hownp hgp hlocp _
            have Hp := Gp.appA (by decide) hgp hownp hlocp
            replace hNb := hNb.grown hgp hfb.1
            obtain ⟨np, Ap, cp, rfl⟩ := own_sl hownp
            refine hK _ _ Hp.sb ?_
            clear hK K hownp hgp hlocp
            refine wpZ_want (i := 18) (by kernel_rfl) rfl (by simp [Region.wanted, yielded]) ?_
            intro wq hxq K hK
            have Gq := Hp.to hxq
            replace hNb := hNb.ext hxq
            refine wp_push _ _ 31 rfl w.heap.size 2 Try.underlying31 infoI64 rfl (by decide) (by decide) encI ys _ rfl Gq.b (d) gb #[.int .i64 d] 2 rfl hNb rfl rfl (encI_one _) (by have := HLB.out; omega) (by have := Gq.ext.size; omega) ?_
            intro vq yq hownq hgq hlocq _
            have Hq := Gq.appB (by decide) hgq hownq hlocq
            obtain ⟨nq, Aq, cq, rfl⟩ := own_sl hownq
            refine hK _ _ Hq.sb ?_
            clear hK K hownq hgq hlocq
            refine wpZ_want (i := 21) (by kernel_rfl) rfl (by simp [Region.wanted, yielded]) ?_
            intro ws hxs K hK
            have Gs := Hq.to hxs
            have cs := Gs.box.cell
            have fs := Gs.box.free
            go_simp
            have Hs := Gs.set (by decide) 0 (.slice Ap np cp) rfl
            refine hK _ _ Hs.sb ?_
            clear hK K cs fs
            generalize ws.setCell _ _ = Ys at Hs ⊢
            refine wpZ_last (by kernel_rfl) rfl (by simp [Region.wanted, yielded]) ?_
            intro wz hxz K hK
            have Gz := Hs.to hxz
            have cz := Gz.box.cell
            have fz := Gz.box.free
            go_simp
            have Hz := Gz.set (by decide) 1 (.slice Aq nq cq) rfl
            refine hK _ _ ?_
            clear hK K cz fz
            generalize wz.setCell _ _ = Yz at Hz ⊢
            refine wpZ_done (by kernel_rfl) (fun W13 hX13 => ?_) _
            have HZ := Hz.to hX13
            clear H0 Hz
            go_wp2_with (fail)
            exact ⟨⟨k + 1, _, _, hlt, rfl, by rw [HE.out, HE2.out]; exact HZ⟩, by simp [intOf]; omega⟩
          · intro wa hxa K hK
            go_simp
            have Ha := Hb.to (hxa.alloc (.cells #[.int .i64 x] 2))
            have hNa := Blk.new wa #[.int .i64 x] 2
            have hfa := (Hb.to hxa).fresh
            replace hNb := hNb.ext (hxa.alloc (.cells #[.int .i64 x] 2))
            refine hK _ _ Ha.sb ?_
            clear hK K hxa
            generalize wa.heap.size = ga at hNa hfa ⊢
            generalize wa.alloc _ = Wa at Ha hNa hNb ⊢
            refine wpZ_want (i := 5) (by kernel_rfl) rfl (by simp [Region.wanted, yielded]) ?_
            intro wl hxl K hK
            have Gl := Ha.to hxl
            replace hNa := hNa.ext hxl
            replace hNb := hNb.ext hxl
            have cl := Gl.box.cell
            go_simp
            refine hK _ _ Gl.sb ?_
            clear hK K cl
            have Hl := Gl
            refine wpZ_want (i := 11) (by kernel_rfl) rfl (by simp [Region.wanted, yielded]) ?_
            intro wp hxp K hK
            have Gp := Hl.to hxp
            replace hNa := hNa.ext hxp
            replace hNb := hNb.ext hxp
            refine wp_push _ _ 31 rfl w.heap.size 2 Try.underlying31 infoI64 rfl (by decide) (by decide) encI xs _ rfl Gp.a (x) ga #[.int .i64 x] 2 rfl hNa rfl rfl (encI_one _) (by have := HLA.out; omega) (by have := Gp.ext.size; omega) ?_
            intro vp yp hownp hgp hlocp _
            have Hp := Gp.appA (by decide) hgp hownp hlocp
            replace hNb := hNb.grown hgp hfb.1
            obtain ⟨np, Ap, cp, rfl⟩ := own_sl hownp
            refine hK _ _ Hp.sb ?_
            clear hK K hownp hgp hlocp
            refine wpZ_want (i := 18) (by kernel_rfl) rfl (by simp [Region.wanted, yielded]) ?_
            intro wq hxq K hK
            have Gq := Hp.to hxq
            replace hNb := hNb.ext hxq
            refine wp_push _ _ 31 rfl w.heap.size 2 Try.underlying31 infoI64 rfl (by decide) (by decide) encI ys _ rfl Gq.b (d) gb #[.int .i64 d] 2 rfl hNb rfl rfl (encI_one _) (by have := HLB.out; omega) (by have := Gq.ext.size; omega) ?_
            intro vq yq hownq hgq hlocq _
            have Hq := Gq.appB (by decide) hgq hownq hlocq
            obtain ⟨nq, Aq, cq, rfl⟩ := own_sl hownq
            refine hK _ _ Hq.sb ?_
            clear hK K hownq hgq hlocq
            refine wpZ_want (i := 21) (by kernel_rfl) rfl (by simp [Region.wanted, yielded]) ?_
            intro ws hxs K hK
            have Gs := Hq.to hxs
            have cs := Gs.box.cell
            have fs := Gs.box.free
            go_simp
            have Hs := Gs.set (by decide) 0 (.slice Ap np cp) rfl
            refine hK _ _ Hs.sb ?_
            clear hK K cs fs
            generalize ws.setCell _ _ = Ys at Hs ⊢
            refine wpZ_last (by kernel_rfl) rfl (by simp [Region.wanted, yielded]) ?_
            intro wz hxz K hK
            have Gz := Hs.to hxz
            have cz := Gz.box.cell
            have fz := Gz.box.free
            go_simp
            have Hz := Gz.set (by decide) 1 (.slice Aq nq cq) rfl
            refine hK _ _ ?_
            clear hK K cz fz
            generalize wz.setCell _ _ = Yz at Hz ⊢
            refine wpZ_done (by kernel_rfl) (fun W13 hX13 => ?_) _
            have HZ := Hz.to hX13
            clear H0 Hz
            go_wp2_with (fail)
            exact ⟨⟨k + 1, _, _, hlt, rfl, by rw [HE.out, HE2.out]; exact HZ⟩, by simp [intOf]; omega⟩
      · have hdv : demL ds k = 1 := by unfold demL; rw [show ds.getD k 1 = 1 by simp [List.getD, List.getElem?_eq_none (show ds.length ≤ k by omega)]]; rfl
        have hkd2 : ¬ (k : Int) < (ds.length : Int) := by omega
        rw [hdv] at HE2
        go_upto_region 12 with (fail)
        have hs1 : ∀ w', SBox w w.heap.size (.slice Ab nb cb) w' → w'.cell? ⟨w.heap.size, 1, none⟩ = some (.slice Ab nb cb) := fun w' h => h.2
        have hs2 : ∀ w', SBox w w.heap.size (.slice Ab nb cb) w' → w'.cell? ⟨b, o + k, none⟩ = some (.int .i64 x) := fun w' h => hx w' h.1
        have H0 := H1
        refine wp_region_mixZ (T := [5, 10, 11, 17, 18, 21, 24]) (z := 24) (S := SBox w w.heap.size (.slice Ab nb cb)) (W := wr) (fun _ _ h hx => h.ext hx) (by kernel_rfl) (by kernel_rfl) (by kernel_rfl) (Ext.refl wr).drew H1.sb (fun _ _ h => h) (fun K hK => ?_)
        (repeat (first | (refine hX_skip ?_ ?_; (· rfl)) | (apply hX_and; (· rfl); (· rfl); (· rfl); (· rfl); (· rfl); simp only [Act.put, List.setIfInBounds_toArray, List.set_cons_zero, List.set_cons_succ]) | (apply hX_or; (· rfl); (· rfl); (· rfl); (· rfl); (· rfl); simp only [Act.put, List.setIfInBounds_toArray, List.set_cons_zero, List.set_cons_succ]) | (apply hX_off; (· rfl); (· rfl); (· rfl); simp only [Act.put, List.setIfInBounds_toArray, List.set_cons_zero, List.set_cons_succ]) | (apply hX_val; (· rfl); (· intro w hS; go_simp; with_reducible rfl); (· rfl); simp only [Act.put, List.setIfInBounds_toArray, List.set_cons_zero, List.set_cons_succ]) | (apply hX_call; (· rfl); (· rfl); (· intro w hS; go_simp; exact ⟨rfl, rfl⟩); (· intro w hS; fail); simp only [Act.put, List.setIfInBounds_toArray, List.set_cons_zero, List.set_cons_succ]) | (apply hX_if; (· rfl); (· rfl); (· rfl); (· intro hif w hS; go_simp; with_reducible rfl); simp only [Act.put, List.setIfInBounds_toArray, List.set_cons_zero, List.set_cons_succ]) | (apply hX_ifcall; (· rfl); (· rfl); (· rfl); (· intro hif w hS; go_simp; exact ⟨rfl, rfl⟩); (· intro hif w hS; fail); simp only [Act.put, List.setIfInBounds_toArray, List.set_cons_zero, List.set_cons_succ]))); refine hX_nil ?_
        refine hK _ ?_
        clear hK K
        refine wpZ_three (i := 5) (j := 10) (k := 17) (by kernel_rfl) rfl rfl rfl rfl rfl rfl ?_ ?_ ?_
        · intro wl hxl K hK
          have Gl := H0.to hxl
          have cl := Gl.box.cell
          go_simp
          refine hK _ _ Gl.sb ?_
          clear hK K cl
          have Hl := Gl
          refine wpZ_two (i := 10) (j := 17) (by kernel_rfl) rfl rfl rfl rfl ?_ ?_
          · intro wa hxa K hK
            go_simp
            have Ha := Hl.to (hxa.alloc (.cells #[.int .i64 x] 2))
            have hNa := Blk.new wa #[.int .i64 x] 2
            have hfa := (Hl.to hxa).fresh
            refine hK _ _ Ha.sb ?_
            clear hK K hxa
            generalize wa.heap.size = ga at hNa hfa ⊢
            generalize wa.alloc _ = Wa at Ha hNa ⊢
            refine wpZ_two (i := 11) (j := 17) (by kernel_rfl) rfl rfl rfl rfl ?_ ?_
            · intro wp hxp K hK
              have Gp := Ha.to hxp
              replace hNa := hNa.ext hxp
              refine wp_push _ _ 31 rfl w.heap.size 2 Try.underlying31 infoI64 rfl (by decide) (by decide) encI xs _ rfl Gp.a (x) ga #[.int .i64 x] 2 rfl hNa rfl rfl (encI_one _) (by have := HLA.out; omega) (by have := Gp.ext.size; omega) ?_
              intro vp yp hownp hgp hlocp _
              have Hp := Gp.appA (by decide) hgp hownp hlocp
              obtain ⟨np, Ap, cp, rfl⟩ := own_sl hownp
              refine hK _ _ Hp.sb ?_
              clear hK K hownp hgp hlocp
              refine wpZ_want (i := 17) (by kernel_rfl) rfl (by simp [Region.wanted, yielded]) ?_
              intro wb hxb K hK
              go_simp
              have Hb := Hp.to (hxb.alloc (.cells #[.int .i64 1] 2))
              have hNb := Blk.new wb #[.int .i64 1] 2
              have hfb := (Hp.to hxb).fresh
              refine hK _ _ Hb.sb ?_
              clear hK K hxb
              generalize wb.heap.size = gb at hNb hfb ⊢
              generalize wb.alloc _ = Wb at Hb hNb ⊢
              refine wpZ_want (i := 18) (by kernel_rfl) rfl (by simp [Region.wanted, yielded]) ?_
              intro wq hxq K hK
              have Gq := Hb.to hxq
              replace hNb := hNb.ext hxq
              refine wp_push _ _ 31 rfl w.heap.size 2 Try.underlying31 infoI64 rfl (by decide) (by decide) encI ys _ rfl Gq.b (1) gb #[.int .i64 1] 2 rfl hNb rfl rfl (encI_one _) (by have := HLB.out; omega) (by have := Gq.ext.size; omega) ?_
              intro vq yq hownq hgq hlocq _
              have Hq := Gq.appB (by decide) hgq hownq hlocq
              obtain ⟨nq, Aq, cq, rfl⟩ := own_sl hownq
              refine hK _ _ Hq.sb ?_
              clear hK K hownq hgq hlocq
              refine wpZ_want (i := 21) (by kernel_rfl) rfl (by simp [Region.wanted, yielded]) ?_
              intro ws hxs K hK
              have Gs := Hq.to hxs
              have cs := Gs.box.cell
              have fs := Gs.box.free
              go_simp
              have Hs := Gs.set (by decide) 0 (.slice Ap np cp) rfl
              refine hK _ _ Hs.sb ?_
              clear hK K cs fs
              generalize ws.setCell _ _ = Ys at Hs ⊢
              refine wpZ_last (by kernel_rfl) rfl (by simp [Region.wanted, yielded]) ?_
              intro wz hxz K hK
              have Gz := Hs.to hxz
              have cz := Gz.box.cell
              have fz := Gz.box.free
              go_simp
              have Hz := Gz.set (by decide) 1 (.slice Aq nq cq) rfl
              refine hK _ _ ?_
              clear hK K cz fz
              generalize wz.setCell _ _ = Yz at Hz ⊢
              refine wpZ_done (by kernel_rfl) (fun W13 hX13 => ?_) _
              have HZ := Hz.to hX13
              clear H0 Hz
              go_wp2_with (fail)
              exact ⟨⟨k + 1, _, _, hlt, rfl, by rw [HE.out, HE2.out]; exact HZ⟩, by simp [intOf]; omega⟩
            · intro wb hxb K hK
              go_simp
              have Hb := Ha.to (hxb.alloc (.cells #[.int .i64 1] 2))
              have hNb := Blk.new wb #[.int .i64 1] 2
              have hfb := (Ha.to hxb).fresh
              replace hNa := hNa.ext (hxb.alloc (.cells #[.int .i64 1] 2))
              refine hK _ _ Hb.sb ?_
              clear hK K hxb
              generalize wb.heap.size = gb at hNb hfb ⊢
              generalize wb.alloc _ = Wb at Hb hNb hNa ⊢
              refine wpZ_want (i := 11) (by kernel_rfl) rfl (by simp [Region.wanted, yielded]) ?_
              intro wp hxp K hK
              have Gp := Hb.to hxp
              replace hNa := hNa.ext hxp
              replace hNb := hNb.ext hxp
              refine wp_push _ _ 31 rfl w.heap.size 2 Try.underlying31 infoI64 rfl (by decide) (by decide) encI xs _ rfl Gp.a (x) ga #[.int .i64 x] 2 rfl hNa rfl rfl (encI_one _) (by have := HLA.out; omega) (by have := Gp.ext.size; omega) ?_
              intro vp yp hownp hgp hlocp _
              have Hp := Gp.appA (by decide) hgp hownp hlocp
              replace hNb := hNb.grown hgp hfb.1
              obtain ⟨np, Ap, cp, rfl⟩ := own_sl hownp
              refine hK _ _ Hp.sb ?_
              clear hK K hownp hgp hlocp
              refine wpZ_want (i := 18) (by kernel_rfl) rfl (by simp [Region.wanted, yielded]) ?_
              intro wq hxq K hK
              have Gq := Hp.to hxq
              replace hNb := hNb.ext hxq
              refine wp_push _ _ 31 rfl w.heap.size 2 Try.underlying31 infoI64 rfl (by decide) (by decide) encI ys _ rfl Gq.b (1) gb #[.int .i64 1] 2 rfl hNb rfl rfl (encI_one _) (by have := HLB.out; omega) (by have := Gq.ext.size; omega) ?_
              intro vq yq hownq hgq hlocq _
              have Hq := Gq.appB (by decide) hgq hownq hlocq
              obtain ⟨nq, Aq, cq, rfl⟩ := own_sl hownq
              refine hK _ _ Hq.sb ?_
              clear hK K hownq hgq hlocq
              refine wpZ_want (i := 21) (by kernel_rfl) rfl (by simp [Region.wanted, yielded]) ?_
              intro ws hxs K hK
              have Gs := Hq.to hxs
              have cs := Gs.box.cell
              have fs := Gs.box.free
              go_simp
              have Hs := Gs.set (by decide) 0 (.slice Ap np cp) rfl
              refine hK _ _ Hs.sb ?_
              clear hK K cs fs
              generalize ws.setCell _ _ = Ys at Hs ⊢
              refine wpZ_last (by kernel_rfl) rfl (by simp [Region.wanted, yielded]) ?_
              intro wz hxz K hK
              have Gz := Hs.to hxz
              have cz := Gz.box.cell
              have fz := Gz.box.free
              go_simp
              have Hz := Gz.set (by decide) 1 (.slice Aq nq cq) rfl
              refine hK _ _ ?_
              clear hK K cz fz
              generalize wz.setCell _ _ = Yz at Hz ⊢
              refine wpZ_done (by kernel_rfl) (fun W13 hX13 => ?_) _
              have HZ := Hz.to hX13
              clear H0 Hz
              go_wp2_with (fail)
              exact ⟨⟨k + 1, _, _, hlt, rfl, by rw [HE.out, HE2.out]; exact HZ⟩, by simp [intOf]; omega⟩
          · intro wb hxb K hK
            go_simp
            have Hb := Hl.to (hxb.alloc (.cells #[.int .i64 1] 2))
            have hNb := Blk.new wb #[.int .i64 1] 2
            have hfb := (Hl.to hxb).fresh
            refine hK _ _ Hb.sb ?_
            clear hK K hxb
            generalize wb.heap.size = gb at hNb hfb ⊢
            generalize wb.alloc _ = Wb at Hb hNb ⊢
            refine wpZ_want (i := 10) (by kernel_rfl) rfl (by simp [Region.wanted, yielded]) ?_
            intro wa hxa K hK
            go_simp
            have Ha := Hb.to (hxa.alloc (.cells #[.int .i64 x] 2))
            have hNa := Blk.new wa #[.int .i64 x] 2
            have hfa := (Hb.to hxa).fresh
            replace hNb := hNb.ext (hxa.alloc (.cells #[.int .i64 x] 2))
            refine hK _ _ Ha.sb ?_
            clear hK K hxa
            generalize wa.heap.size = ga at hNa hfa ⊢
            generalize wa.alloc _ = Wa at Ha hNa hNb ⊢
            refine wpZ_want (i := 11) (by kernel_rfl) rfl (by simp [Region.wanted, yielded]) ?_
            intro wp hxp K hK
            have Gp := Ha.to hxp
            replace hNa := hNa.ext hxp
            replace hNb := hNb.ext hxp
            refine wp_push _ _ 31 rfl w.heap.size 2 Try.underlying31 infoI64 rfl (by decide) (by decide) encI xs _ rfl Gp.a (x) ga #[.int .i64 x] 2 rfl hNa rfl rfl (encI_one _) (by have := HLA.out; omega) (by have := Gp.ext.size; omega) ?_
            intro vp yp hownp hgp hlocp _
            have Hp := Gp.appA (by decide) hgp hownp hlocp
            replace hNb := hNb.grown hgp hfb.1
            obtain ⟨np, Ap, cp, rfl⟩ := own_sl hownp
            refine hK _ _ Hp.sb ?_
            clear hK K hownp hgp hlocp
            refine wpZ_want (i := 18) (by kernel_rfl) rfl (by simp [Region.wanted, yielded]) ?_
            intro wq hxq K hK
            have Gq := Hp.to hxq
            replace hNb := hNb.ext hxq
            refine wp_push _ _ 31 rfl w.heap.size 2 Try.underlying31 infoI64 rfl (by decide) (by decide) encI ys _ rfl Gq.b (1) gb #[.int .i64 1] 2 rfl hNb rfl rfl (encI_one _) (by have := HLB.out; omega) (by have := Gq.ext.size; omega) ?_
            intro vq yq hownq hgq hlocq _
            have Hq := Gq.appB (by decide) hgq hownq hlocq
            obtain ⟨nq, Aq, cq, rfl⟩ := own_sl hownq
            refine hK _ _ Hq.sb ?_
            clear hK K hownq hgq hlocq
            refine wpZ_want (i := 21) (by kernel_rfl) rfl (by simp [Region.wanted, yielded]) ?_
            intro ws hxs K hK
            have Gs := Hq.to hxs
            have cs := Gs.box.cell
            have fs := Gs.box.free
            go_simp
            have Hs := Gs.set (by decide) 0 (.slice Ap np cp) rfl
            refine hK _ _ Hs.sb ?_
            clear hK K cs fs
            generalize ws.setCell _ _ = Ys at Hs ⊢
            refine wpZ_last (by kernel_rfl) rfl (by simp [Region.wanted, yielded]) ?_
            intro wz hxz K hK
            have Gz := Hs.to hxz
            have cz := Gz.box.cell
            have fz := Gz.box.free
            go_simp
            have Hz := Gz.set (by decide) 1 (.slice Aq nq cq) rfl
            refine hK _ _ ?_
            clear hK K cz fz
            generalize wz.setCell _ _ = Yz at Hz ⊢
            refine wpZ_done (by kernel_rfl) (fun W13 hX13 => ?_) _
            have HZ := Hz.to hX13
            clear H0 Hz
            go_wp2_with (fail)
            exact ⟨⟨k + 1, _, _, hlt, rfl, by rw [HE.out, HE2.out]; exact HZ⟩, by simp [intOf]; omega⟩
        · intro wa hxa K hK
          go_simp
          have Ha := H0.to (hxa.alloc (.cells #[.int .i64 x] 2))
          have hNa := Blk.new wa #[.int .i64 x] 2
          have hfa := (H0.to hxa).fresh
          refine hK _ _ Ha.sb ?_
          clear hK K hxa
          generalize wa.heap.size = ga at hNa hfa ⊢
          generalize wa.alloc _ = Wa at Ha hNa ⊢
          refine wpZ_two (i := 5) (j := 17) (by kernel_rfl) rfl rfl rfl rfl ?_ ?_
          · intro wl hxl K hK
            have Gl := Ha.to hxl
            replace hNa := hNa.ext hxl
            have cl := Gl.box.cell
            go_simp
            refine hK _ _ Gl.sb ?_
            clear hK K cl
            have Hl := Gl
            refine wpZ_two (i := 11) (j := 17) (by kernel_rfl) rfl rfl rfl rfl ?_ ?_
            · intro wp hxp K hK
              have Gp := Hl.to hxp
              replace hNa := hNa.ext hxp
              refine wp_push _ _ 31 rfl w.heap.size 2 Try.underlying31 infoI64 rfl (by decide) (by decide) encI xs _ rfl Gp.a (x) ga #[.int .i64 x] 2 rfl hNa rfl rfl (encI_one _) (by have := HLA.out; omega) (by have := Gp.ext.size; omega) ?_
              intro vp yp hownp hgp hlocp _
              have Hp := Gp.appA (by decide) hgp hownp hlocp
              obtain ⟨np, Ap, cp, rfl⟩ := own_sl hownp
              refine hK _ _ Hp.sb ?_
              clear hK K hownp hgp hlocp
              refine wpZ_want (i := 17) (by kernel_rfl) rfl (by simp [Region.wanted, yielded]) ?_
              intro wb hxb K hK
              go_simp
              have Hb := Hp.to (hxb.alloc (.cells #[.int .i64 1] 2))
              have hNb := Blk.new wb #[.int .i64 1] 2
              have hfb := (Hp.to hxb).fresh
              refine hK _ _ Hb.sb ?_
              clear hK K hxb
              generalize wb.heap.size = gb at hNb hfb ⊢
              generalize wb.alloc _ = Wb at Hb hNb ⊢
              refine wpZ_want (i := 18) (by kernel_rfl) rfl (by simp [Region.wanted, yielded]) ?_
              intro wq hxq K hK
              have Gq := Hb.to hxq
              replace hNb := hNb.ext hxq
              refine wp_push _ _ 31 rfl w.heap.size 2 Try.underlying31 infoI64 rfl (by decide) (by decide) encI ys _ rfl Gq.b (1) gb #[.int .i64 1] 2 rfl hNb rfl rfl (encI_one _) (by have := HLB.out; omega) (by have := Gq.ext.size; omega) ?_
              intro vq yq hownq hgq hlocq _
              have Hq := Gq.appB (by decide) hgq hownq hlocq
              obtain ⟨nq, Aq, cq, rfl⟩ := own_sl hownq
              refine hK _ _ Hq.sb ?_
              clear hK K hownq hgq hlocq
              refine wpZ_want (i := 21) (by kernel_rfl) rfl (by simp [Region.wanted, yielded]) ?_
              intro ws hxs K hK
              have Gs := Hq.to hxs
              have cs := Gs.box.cell
              have fs := Gs.box.free
              go_simp
              have Hs := Gs.set (by decide) 0 (.slice Ap np cp) rfl
              refine hK _ _ Hs.sb ?_
              clear hK K cs fs
              generalize ws.setCell _ _ = Ys at Hs ⊢
              refine wpZ_last (by kernel_rfl) rfl (by simp [Region.wanted, yielded]) ?_
              intro wz hxz K hK
              have Gz := Hs.to hxz
              have cz := Gz.box.cell
              have fz := Gz.box.free
              go_simp
              have Hz := Gz.set (by decide) 1 (.slice Aq nq cq) rfl
              refine hK _ _ ?_
              clear hK K cz fz
              generalize wz.setCell _ _ = Yz at Hz ⊢
              refine wpZ_done (by kernel_rfl) (fun W13 hX13 => ?_) _
              have HZ := Hz.to hX13
              clear H0 Hz
              go_wp2_with (fail)
              exact ⟨⟨k + 1, _, _, hlt, rfl, by rw [HE.out, HE2.out]; exact HZ⟩, by simp [intOf]; omega⟩
            · intro wb hxb K hK
              go_simp
              have Hb := Hl.to (hxb.alloc (.cells #[.int .i64 1] 2))
              have hNb := Blk.new wb #[.int .i64 1] 2
              have hfb := (Hl.to hxb).fresh
              replace hNa := hNa.ext (hxb.alloc (.cells #[.int .i64 1] 2))
              refine hK _ _ Hb.sb ?_
              clear hK K hxb
              generalize wb.heap.size = gb at hNb hfb ⊢
              generalize wb.alloc _ = Wb at Hb hNb hNa ⊢
              refine wpZ_want (i := 11) (by kernel_rfl) rfl (by simp [Region.wanted, yielded]) ?_
              intro wp hxp K hK
              have Gp := Hb.to hxp
              replace hNa := hNa.ext hxp
              replace hNb := hNb.ext hxp
              refine wp_push _ _ 31 rfl w.heap.size 2 Try.underlying31 infoI64 rfl (by decide) (by decide) encI xs _ rfl Gp.a (x) ga #[.int .i64 x] 2 rfl hNa rfl rfl (encI_one _) (by have := HLA.out; omega) (by have := Gp.ext.size; omega) ?_
              intro vp yp hownp hgp hlocp _
              have Hp := Gp.appA (by decide) hgp hownp hlocp
              replace hNb := hNb.grown hgp hfb.1
              obtain ⟨np, Ap, cp, rfl⟩ := own_sl hownp
              refine hK _ _ Hp.sb ?_
              clear hK K hownp hgp hlocp
              refine wpZ_want (i := 18) (by kernel_rfl) rfl (by simp [Region.wanted, yielded]) ?_
              intro wq hxq K hK
              have Gq := Hp.to hxq
              replace hNb := hNb.ext hxq
              refine wp_push _ _ 31 rfl w.heap.size 2 Try.underlying31 infoI64 rfl (by decide) (by decide) encI ys _ rfl Gq.b (1) gb #[.int .i64 1] 2 rfl hNb rfl rfl (encI_one _) (by have := HLB.out; omega) (by have := Gq.ext.size; omega) ?_
              intro vq yq hownq hgq hlocq _
              have Hq := Gq.appB (by decide) hgq hownq hlocq
              obtain ⟨nq, Aq, cq, rfl⟩ := own_sl hownq
              refine hK _ _ Hq.sb ?_
              clear hK K hownq hgq hlocq
              refine wpZ_want (i := 21) (by kernel_rfl) rfl (by simp [Region.wanted, yielded]) ?_
              intro ws hxs K hK
              have Gs := Hq.to hxs
              have cs := Gs.box.cell
              have fs := Gs.box.free
              go_simp
              have Hs := Gs.set (by decide) 0 (.slice Ap np cp) rfl
              refine hK _ _ Hs.sb ?_
              clear hK K cs fs
              generalize ws.setCell _ _ = Ys at Hs ⊢
              refine wpZ_last (by kernel_rfl) rfl (by simp [Region.wanted, yielded]) ?_
              intro wz hxz K hK
              have Gz := Hs.to hxz
              have cz := Gz.box.cell
              have fz := Gz.box.free
              go_simp
              have Hz := Gz.set (by decide) 1 (.slice Aq nq cq) rfl
              refine hK _ _ ?_
              clear hK K cz fz
              generalize wz.setCell _ _ = Yz at Hz ⊢
              refine wpZ_done (by kernel_rfl) (fun W13 hX13 => ?_) _
              have HZ := Hz.to hX13
              clear H0 Hz
              go_wp2_with (fail)
              exact ⟨⟨k + 1, _, _, hlt, rfl, by rw [HE.out, HE2.out]; exact HZ⟩, by simp [intOf]; omega⟩
          · intro wb hxb K hK
            go_simp
            have Hb := Ha.to (hxb.alloc (.cells #[.int .i64 1] 2))
            have hNb := Blk.new wb #[.int .i64 1] 2
            have hfb := (Ha.to hxb).fresh
            replace hNa := hNa.ext (hxb.alloc (.cells #[.int .i64 1] 2))
            refine hK _ _ Hb.sb ?_
            clear hK K hxb
            generalize wb.heap.size = gb at hNb hfb ⊢
            generalize wb.alloc _ = Wb at Hb hNb hNa ⊢
            refine wpZ_want (i := 5) (by kernel_rfl) rfl (by simp [Region.wanted, yielded]) ?_
            intro wl hxl K hK
            have Gl := Hb.to hxl
            replace hNa := hNa.ext hxl
            replace hNb := hNb.ext hxl
            have cl := Gl.box.cell
            go_simp
            refine hK _ _ Gl.sb ?_
            clear hK K cl
            have Hl := Gl
            refine wpZ_want (i := 11) (by kernel_rfl) rfl (by simp [Region.wanted, yielded]) ?_
            intro wp hxp K hK
            have Gp := Hl.to hxp
            replace hNa := hNa.ext hxp
            replace hNb := hNb.ext hxp
            refine wp_push _ _ 31 rfl w.heap.size 2 Try.underlying31 infoI64 rfl (by decide) (by decide) encI xs _ rfl Gp.a (x) ga #[.int .i64 x] 2 rfl hNa rfl rfl (encI_one _) (by have := HLA.out; omega) (by have := Gp.ext.size; omega) ?_
            intro vp yp hownp hgp hlocp _
            have Hp := Gp.appA (by decide) hgp hownp hlocp
            replace hNb := hNb.grown hgp hfb.1
            obtain ⟨np, Ap, cp, rfl⟩ := own_sl hownp
            refine hK _ _ Hp.sb ?_
            clear hK K hownp hgp hlocp
            refine wpZ_want (i := 18) (by kernel_rfl) rfl (by simp [Region.wanted, yielded]) ?_
            intro wq hxq K hK
            have Gq := Hp.to hxq
            replace hNb := hNb.ext hxq
            refine wp_push _ _ 31 rfl w.heap.size 2 Try.underlying31 infoI64 rfl (by decide) (by decide) encI ys _ rfl Gq.b (1) gb #[.int .i64 1] 2 rfl hNb rfl rfl (encI_one _) (by have := HLB.out; omega) (by have := Gq.ext.size; omega) ?_
            intro vq yq hownq hgq hlocq _
            have Hq := Gq.appB (by decide) hgq hownq hlocq
            obtain ⟨nq, Aq, cq, rfl⟩ := own_sl hownq
            refine hK _ _ Hq.sb ?_
            clear hK K hownq hgq hlocq
            refine wpZ_want (i := 21) (by kernel_rfl) rfl (by simp [Region.wanted, yielded]) ?_
            intro ws hxs K hK
            have Gs := Hq.to hxs
            have cs := Gs.box.cell
            have fs := Gs.box.free
            go_simp
            have Hs := Gs.set (by decide) 0 (.slice Ap np cp) rfl
            refine hK _ _ Hs.sb ?_
            clear hK K cs fs
            generalize ws.setCell _ _ = Ys at Hs ⊢
            refine wpZ_last (by kernel_rfl) rfl (by simp [Region.wanted, yielded]) ?_
            intro wz hxz K hK
            have Gz := Hs.to hxz
            have cz := Gz.box.cell
            have fz := Gz.box.free
            go_simp
            have Hz := Gz.set (by decide) 1 (.slice Aq nq cq) rfl
            refine hK _ _ ?_
            clear hK K cz fz
            generalize wz.setCell _ _ = Yz at Hz ⊢
            refine wpZ_done (by kernel_rfl) (fun W13 hX13 => ?_) _
            have HZ := Hz.to hX13
            clear H0 Hz
            go_wp2_with (fail)
            exact ⟨⟨k + 1, _, _, hlt, rfl, by rw [HE.out, HE2.out]; exact HZ⟩, by simp [intOf]; omega⟩
        · intro wb hxb K hK
          go_simp
          have Hb := H0.to (hxb.alloc (.cells #[.int .i64 1] 2))
          have hNb := Blk.new wb #[.int .i64 1] 2
          have hfb := (H0.to hxb).fresh
          refine hK _ _ Hb.sb ?_
          clear hK K hxb
          generalize wb.heap.size = gb at hNb hfb ⊢
          generalize wb.alloc _ = Wb at Hb hNb ⊢
          refine wpZ_two (i := 5) (j := 10) (by kernel_rfl) rfl rfl rfl rfl ?_ ?_
          · intro wl hxl K hK
            have Gl := Hb.to hxl
            replace hNb := hNb.ext hxl
            have cl := Gl.box.cell
            go_simp
            refine hK _ _ Gl.sb ?_
            clear hK K cl
            have Hl := Gl
            refine wpZ_want (i := 10) (by kernel_rfl) rfl (by simp [Region.wanted, yielded]) ?_
            intro wa hxa K hK
            go_simp
            have Ha := Hl.to (hxa.alloc (.cells #[.int .i64 x] 2))
            have hNa := Blk.new wa #[.int .i64 x] 2
            have hfa := (Hl.to hxa).fresh
            replace hNb := hNb.ext (hxa.alloc (.cells #[.int .i64 x] 2))
            refine hK _ _ Ha.sb ?_
            clear hK K hxa
            generalize wa.heap.size = ga at hNa hfa ⊢
            generalize wa.alloc _ = Wa at Ha hNa hNb ⊢
            refine wpZ_want (i := 11) (by kernel_rfl) rfl (by simp [Region.wanted, yielded]) ?_
            intro wp hxp K hK
            have Gp := Ha.to hxp
            replace hNa := hNa.ext hxp
            replace hNb := hNb.ext hxp
            refine wp_push _ _ 31 rfl w.heap.size 2 Try.underlying31 infoI64 rfl (by decide) (by decide) encI xs _ rfl Gp.a (x) ga #[.int .i64 x] 2 rfl hNa rfl rfl (encI_one _) (by have := HLA.out; omega) (by have := Gp.ext.size; omega) ?_
            intro vp yp hownp hgp hlocp _
            have Hp := Gp.appA (by decide) hgp hownp hlocp
            replace hNb := hNb.grown hgp hfb.1
            obtain ⟨np, Ap, cp, rfl⟩ := own_sl hownp
            refine hK _ _ Hp.sb ?_
            clear hK K hownp hgp hlocp
            refine wpZ_want (i := 18) (by kernel_rfl) rfl (by simp [Region.wanted, yielded]) ?_
            intro wq hxq K hK
            have Gq := Hp.to hxq
            replace hNb := hNb.ext hxq
            refine wp_push _ _ 31 rfl w.heap.size 2 Try.underlying31 infoI64 rfl (by decide) (by decide) encI ys _ rfl Gq.b (1) gb #[.int .i64 1] 2 rfl hNb rfl rfl (encI_one _) (by have := HLB.out; omega) (by have := Gq.ext.size; omega) ?_
            intro vq yq hownq hgq hlocq _
            have Hq := Gq.appB (by decide) hgq hownq hlocq
            obtain ⟨nq, Aq, cq, rfl⟩ := own_sl hownq
            refine hK _ _ Hq.sb ?_
            clear hK K hownq hgq hlocq
            refine wpZ_want (i := 21) (by kernel_rfl) rfl (by simp [Region.wanted, yielded]) ?_
            intro ws hxs K hK
            have Gs := Hq.to hxs
            have cs := Gs.box.cell
            have fs := Gs.box.free
            go_simp
            have Hs := Gs.set (by decide) 0 (.slice Ap np cp) rfl
            refine hK _ _ Hs.sb ?_
            clear hK K cs fs
            generalize ws.setCell _ _ = Ys at Hs ⊢
            refine wpZ_last (by kernel_rfl) rfl (by simp [Region.wanted, yielded]) ?_
            intro wz hxz K hK
            have Gz := Hs.to hxz
            have cz := Gz.box.cell
            have fz := Gz.box.free
            go_simp
            have Hz := Gz.set (by decide) 1 (.slice Aq nq cq) rfl
            refine hK _ _ ?_
            clear hK K cz fz
            generalize wz.setCell _ _ = Yz at Hz ⊢
            refine wpZ_done (by kernel_rfl) (fun W13 hX13 => ?_) _
            have HZ := Hz.to hX13
            clear H0 Hz
            go_wp2_with (fail)
            exact ⟨⟨k + 1, _, _, hlt, rfl, by rw [HE.out, HE2.out]; exact HZ⟩, by simp [intOf]; omega⟩
          · intro wa hxa K hK
            go_simp
            have Ha := Hb.to (hxa.alloc (.cells #[.int .i64 x] 2))
            have hNa := Blk.new wa #[.int .i64 x] 2
            have hfa := (Hb.to hxa).fresh
            replace hNb := hNb.ext (hxa.alloc (.cells #[.int .i64 x] 2))
            refine hK _ _ Ha.sb ?_
            clear hK K hxa
            generalize wa.heap.size = ga at hNa hfa ⊢
            generalize wa.alloc _ = Wa at Ha hNa hNb ⊢
            refine wpZ_want (i := 5) (by kernel_rfl) rfl (by simp [Region.wanted, yielded]) ?_
            intro wl hxl K hK
            have Gl := Ha.to hxl
            replace hNa := hNa.ext hxl
            replace hNb := hNb.ext hxl
            have cl := Gl.box.cell
            go_simp
            refine hK _ _ Gl.sb ?_
            clear hK K cl
            have Hl := Gl
            refine wpZ_want (i := 11) (by kernel_rfl) rfl (by simp [Region.wanted, yielded]) ?_
            intro wp hxp K hK
            have Gp := Hl.to hxp
            replace hNa := hNa.ext hxp
            replace hNb := hNb.ext hxp
            refine wp_push _ _ 31 rfl w.heap.size 2 Try.underlying31 infoI64 rfl (by decide) (by decide) encI xs _ rfl Gp.a (x) ga #[.int .i64 x] 2 rfl hNa rfl rfl (encI_one _) (by have := HLA.out; omega) (by have := Gp.ext.size; omega) ?_
            intro vp yp hownp hgp hlocp _
            have Hp := Gp.appA (by decide) hgp hownp hlocp
            replace hNb := hNb.grown hgp hfb.1
            obtain ⟨np, Ap, cp, rfl⟩ := own_sl hownp
            refine hK _ _ Hp.sb ?_
            clear hK K hownp hgp hlocp
            refine wpZ_want (i := 18) (by kernel_rfl) rfl (by simp [Region.wanted, yielded]) ?_
            intro wq hxq K hK
            have Gq := Hp.to hxq
            replace hNb := hNb.ext hxq
            refine wp_push _ _ 31 rfl w.heap.size 2 Try.underlying31 infoI64 rfl (by decide) (by decide) encI ys _ rfl Gq.b (1) gb #[.int .i64 1] 2 rfl hNb rfl rfl (encI_one _) (by have := HLB.out; omega) (by have := Gq.ext.size; omega) ?_
            intro vq yq hownq hgq hlocq _
            have Hq := Gq.appB (by decide) hgq hownq hlocq
            obtain ⟨nq, Aq, cq, rfl⟩ := own_sl hownq
            refine hK _ _ Hq.sb ?_
            clear hK K hownq hgq hlocq
            refine wpZ_want (i := 21) (by kernel_rfl) rfl (by simp [Region.wanted, yielded]) ?_
            intro ws hxs K hK
            have Gs := Hq.to hxs
            have cs := Gs.box.cell
            have fs := Gs.box.free
            go_simp
            have Hs := Gs.set (by decide) 0 (.slice Ap np cp) rfl
            refine hK _ _ Hs.sb ?_
            clear hK K cs fs
            generalize ws.setCell _ _ = Ys at Hs ⊢
            refine wpZ_last (by kernel_rfl) rfl (by simp [Region.wanted, yielded]) ?_
            intro wz hxz K hK
            have Gz := Hs.to hxz
            have cz := Gz.box.cell
            have fz := Gz.box.free
            go_simp
            have Hz := Gz.set (by decide) 1 (.slice Aq nq cq) rfl
            refine hK _ _ ?_
            clear hK K cz fz
            generalize wz.setCell _ _ = Yz at Hz ⊢
            refine wpZ_done (by kernel_rfl) (fun W13 hX13 => ?_) _
            have HZ := Hz.to hX13
            clear H0 Hz
            go_wp2_with (fail)
            exact ⟨⟨k + 1, _, _, hlt, rfl, by rw [HE.out, HE2.out]; exact HZ⟩, by simp [intOf]; omega⟩
    · obtain rfl : k = rs.length := by omega
      rw [List.take_length] at H1
      have HH := Lib.hid H1
      clear H1
      go_wp2_with (fail)
      go_ret
      exact ⟨_, rfl, Nat.le_refl _, ⟨va, vb, 0, HH.out.box, HH.out.a, HH.out.b⟩, HH.out.ext⟩
end Go.Proofs.Ytlaflbepidkmnaa
