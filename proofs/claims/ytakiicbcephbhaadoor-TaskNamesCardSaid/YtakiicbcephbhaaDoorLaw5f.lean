import Derived.Test.YtakiicbcephbhaaDoorProg
import Derived.Test.YtakiicbcephbhaaDoorBase
import Derived.Test.YtakiicbcephbhaaDoorBase2
import Derived.Test.YtakiicbcephbhaaDoorHeld
import Derived.Test.YtakiicbcephbhaaDoorHeldX
import Derived.Test.YtakiicbcephbhaaDoorLexM
import Derived.Test.YtakiicbcephbhaaDoorLex1
import Derived.Test.YtakiicbcephbhaaDoorLex3
import Derived.Test.YtakiicbcephbhaaDoorTskM
import Derived.Test.YtakiicbcephbhaaDoorTsk1
import Derived.Test.YtakiicbcephbhaaDoorTsk2
import Derived.Test.YtakiicbcephbhaaDoorTsk3
import Derived.Test.YtakiicbcephbhaaDoorTsk4
import Derived.Test.YtakiicbcephbhaaDoorTskZ
import Derived.Test.YtakiicbcephbhaaDoorTskS
import Derived.Test.YtakiicbcephbhaaDoorTskA
import Derived.Test.YtakiicbcephbhaaDoorTskO
import Derived.Test.YtakiicbcephbhaaDoorSetO
import Derived.Test.YtakiicbcephbhaaDoorTskP
import Derived.Test.YtakiicbcephbhaaDoorTskN
import Derived.Test.YtakiicbcephbhaaDoorLaw5a
import Derived.Deep.Cut
import Derived.Lib.Hide
namespace Go.Proofs.YtakiicbcephbhaaDoor
open Go.RowKit
attribute [local go_sem] setCell_twice ByteArray.toList_eq str_list Ext.alloc Ext.drew
set_option linter.unusedSimpArgs false

/-- all names are apart -/
theorem okL_apart : ∀ (ts : List Tsk) (n : Nat) (seen : List (List UInt8)), okL ts n seen = true → (∀ t ∈ ts, t.name.data.toList ∉ seen) ∧ ts.Pairwise (fun a b => a.name.data.toList ≠ b.name.data.toList)
  | [], _, _, _ => ⟨by simp, List.Pairwise.nil⟩
  | t :: ts, n, seen, h => by
    unfold okL at h
    simp only [Bool.and_eq_true, Bool.not_eq_true', decide_eq_false_iff_not] at h
    obtain ⟨h1, h2⟩ := okL_apart ts _ _ h.2.2
    refine ⟨fun x hx => ?_, List.Pairwise.cons (fun x hx e => ?_) h2⟩
    · rcases List.mem_cons.1 hx with rfl | hx
      · exact h.2.1
      · exact fun hm => h1 x hx (List.mem_append_left _ hm)
    · exact h1 x hx (List.mem_append_right _ (by rw [e]; exact List.mem_singleton.2 rfl))
def TSet.named (s : TSet) (i : Nat) (nm : ByteArray) : TSet := ⟨s.reload, s.tasks.modify i fun t => { t with name := nm }⟩
theorem names_apart {s : TSet} (h : allB s = true) {i k : Nat} (hi : i < s.tasks.length) (hk : k < s.tasks.length) (e : s.tasks[i].name = s.tasks[k].name) : i = k := by
  unfold allB at h
  simp only [Bool.and_eq_true] at h
  have h2 := (okL_apart _ _ _ h.2.2.2).2
  rw [List.pairwise_iff_getElem] at h2
  rcases Nat.lt_trichotomy i k with hl | rfl | hl
  · exact absurd (by rw [e]) (h2 i k hi hk hl)
  · rfl
  · exact absurd (by rw [e]) (h2 k i hk hi hl)
theorem named_self (s : TSet) (i : Nat) (hi : i < s.tasks.length) : s.named i s.tasks[i].name = s := by
  refine TSet.ext' rfl ?_
  refine List.ext_getElem (by simp [TSet.named]) fun j h1 h2 => ?_
  simp only [TSet.named, List.getElem_modify]
  split
  · rename_i e; subst e; rfl
  · rfl
theorem named_other {s : TSet} (h : allB s = true) {i k : Nat} (hi : i < s.tasks.length) (hk : k < s.tasks.length) (hne : i ≠ k) : allB (s.named i s.tasks[k].name) = false ∧ s.named i s.tasks[k].name ≠ s := by
  have hl : (s.named i s.tasks[k].name).tasks.length = s.tasks.length := by simp [TSet.named]
  have at_i : ((s.named i s.tasks[k].name).tasks[i]'(by omega)).name = s.tasks[k].name := by simp [TSet.named]
  have at_k : ((s.named i s.tasks[k].name).tasks[k]'(by omega)).name = s.tasks[k].name := by simp [TSet.named, List.getElem_modify, hne]
  constructor
  · cases hb : allB (s.named i s.tasks[k].name) with
    | false => rfl
    | true => exact absurd (names_apart hb (by omega) (by omega) (at_i.trans at_k.symm)) hne
  · intro e
    have : s.tasks[i].name = s.tasks[k].name := by
      have := at_i
      simp only [e] at this
      exact this
    exact hne (names_apart h hi hk this)
theorem named_all {s : TSet} (h : allB s = true) {i k : Nat} (hi : i < s.tasks.length) (hk : k < s.tasks.length) : allB (s.named i s.tasks[k].name) = decide (i = k) ∧ decide (s.named i s.tasks[k].name = s) = decide (i = k) := by
  by_cases e : i = k
  · subst e
    rw [named_self s i hi]
    simp [h]
  · obtain ⟨h1, h2⟩ := named_other h hi hk e
    simp [h1, h2, e]
theorem map_modify {ps : List (Tsk × Value)} {i : Nat} (hi : i < ps.length) (nm : ByteArray) : (ps.set i ({ (ps[i]).1 with name := nm }, (ps[i]).2)).map (·.1) = (ps.map (·.1)).modify i fun t => { t with name := nm } := by
  refine List.ext_getElem (by simp) fun j h1 h2 => ?_
  simp only [List.getElem_map, List.getElem_set, List.getElem_modify]
  split
  · rename_i e; subst e; rfl
  · rfl

/-- between the call and the store: task i has its own name still, or the other one -/
def RowS (wb : World) (g n c : Nat) (ps : List (Tsk × Value)) (i k : Nat) (hi : i < ps.length) (nk : ByteArray) (gb : Nat) (cs : Array Value) (w' : World) : Prop :=
  ∃ nm, (i = k → nm = nk) ∧ PutOwn w' wb.heap.size (.slice (some ⟨g, 0, none⟩) n c) (ps.set i ({ (ps[i]).1 with name := nm }, (ps[i]).2)) ∧ Blk w' gb cs 48 ∧ Ext wb w' ∧ wb.heap.size ≤ g
section
variable {wb w' w2 : World} {g n c : Nat} {ps : List (Tsk × Value)} {i k : Nat} {hi : i < ps.length} {nk : ByteArray} {gb : Nat} {cs : Array Value}
theorem RowS.ext (h : RowS wb g n c ps i k hi nk gb cs w') (hx : Ext w' w2) : RowS wb g n c ps i k hi nk gb cs w2 := by
  obtain ⟨nm, h1, h2, h3, h4, h5⟩ := h
  exact ⟨nm, h1, h2.ext hx, h3.ext hx, h4.trans hx, h5⟩
theorem RowS.box (h : RowS wb g n c ps i k hi nk gb cs w') (j : Nat) : w'.cell? ⟨gb, j, none⟩ = cs[j]? := by
  obtain ⟨nm, h1, h2, h3, h4, h5⟩ := h
  exact h3.cell j
theorem RowS.name (h : RowS wb g n c ps i k hi nk gb cs w') (hk : k < ps.length) (hn : (ps[k]).1.name = nk) : w'.cell? ⟨g, k * 9, none⟩ = some (.string nk) := by
  obtain ⟨nm, h1, h2, h3, h4, h5⟩ := h
  have := h2.at (i := k) (k := 0) (by simpa using hk) (by decide)
  rw [Nat.add_zero] at this
  rw [this, List.getElem_set]
  split
  · rename_i e
    rw [h1 e]
    rfl
  · rw [← hn]
    rfl
theorem RowS.there (h : RowS wb g n c ps i k hi nk gb cs w') : (∃ v, w'.cell? ⟨g, i * 9, none⟩ = some v) ∧ w'.frozen? ⟨g, i * 9, none⟩ = false := by
  obtain ⟨nm, h1, h2, h3, h4, h5⟩ := h
  have := h2.at (i := i) (k := 0) (by simpa using hi) (by decide)
  rw [Nat.add_zero] at this
  refine ⟨⟨_, this.trans (by simp; rfl)⟩, ?_⟩
  obtain ⟨_, _, e, _⟩ := h2.1.form
  obtain ⟨_, rfl, _⟩ := Value.slice.inj e
  exact World.ownsRow.frozenAt h2.1 (i * 9)
theorem RowS.store (h : RowS wb g n c ps i k hi nk gb cs w') : RowS wb g n c ps i k hi nk gb cs (w'.setCell ⟨g, i * 9, none⟩ (.string nk)) ∧ PutOwn (w'.setCell ⟨g, i * 9, none⟩ (.string nk)) wb.heap.size (.slice (some ⟨g, 0, none⟩) n c) (ps.set i ({ (ps[i]).1 with name := nk }, (ps[i]).2)) := by
  obtain ⟨nm, h1, h2, h3, h4, h5⟩ := h
  have hne : gb ≠ g := fun e => own_ne_blk h2.1 h3 (by decide) (by rw [e]; rfl)
  have h6 := h2.stored (i := i) (k := 0) (by simpa using hi) (by decide) (t := { (ps[i]).1 with name := nk }) (u := .string nk) (by simp [encT]) (by simp)
  simp only [Nat.add_zero, List.set_set, List.getElem_set_self] at h6
  exact ⟨⟨nk, fun _ => rfl, h6, h3.far (p := ⟨g, i * 9, none⟩) hne _, h4.set h5 _, h5⟩, h6⟩
end

set_option maxHeartbeats 6400000 in
set_option maxRecDepth 100000 in
/-- TaskNames: no two tasks have one name. -/
theorem taskNames_walk (v : Value) (s : TSet) (i k : Int) (w : World) (hv : ∃ x, v = setV s x ∧ Tasks w x s.tasks ∧ s.fit) (wi : (Lit.int .i64 i).wf = true) (wk : (Lit.int .i64 k).wf = true) (hG : GOK w) :
    Calls Tryd.prog 14 #[v, .int .i64 i, .int .i64 k] w fun e w' => e = .returned (.bool true) ∧ Below w.heap.size w w' := by
  obtain ⟨x, rfl, hx, hf⟩ := hv
  have l1 := hx.len
  have hx0 := hx
  have hg := hf.good
  obtain ⟨A, c, rfl, _, _, _⟩ := hx0
  go_enter Tryd.func14, Tryd.ntmps14
  unfold setV
  go_upto_region 1 with (fail)
  have hL : Below w.heap.size w (w.alloc (.cells #[.int .i64 s.reload, (.slice A s.tasks.length c)] 48)) := (by repeat (first | exact Below.refl _ _ | assumption | refine Below.drew ?_ | refine Below.alloc ?_ (by first | (simp; done) | (simp; omega) | omega) _ | refine Below.setCell ?_ (by first | (simp; done) | (simp; omega) | omega) _)); have hB : Blk (w.alloc (.cells #[.int .i64 s.reload, (.slice A s.tasks.length c)] 48)) w.heap.size #[.int .i64 s.reload, (.slice A s.tasks.length c)] 48 := Blk.new _ _ _
  have hr := hx.ext ⟨hL⟩
  have hG0 := hG.below hL
  generalize w.alloc _ = W at hL hB hr hG0 ⊢
  have hc := hB.under
  refine wp_region_all' (S := Ext W) (Ext.refl W) (fun K hK => ?_); (repeat (first | (apply hO_and; (· rfl); (· rfl); (· rfl); (· rfl); simp only [Act.put, List.setIfInBounds_toArray, List.set_cons_zero, List.set_cons_succ]) | (apply hO_or; (· rfl); (· rfl); (· rfl); (· rfl); simp only [Act.put, List.setIfInBounds_toArray, List.set_cons_zero, List.set_cons_succ]) | (apply hO_off; (· rfl); (· rfl); simp only [Act.put, List.setIfInBounds_toArray, List.set_cons_zero, List.set_cons_succ]) | (apply hO_val; (· intro w hS; go_simp; with_reducible rfl); (· rfl); simp only [Act.put, List.setIfInBounds_toArray, List.set_cons_zero, List.set_cons_succ]) | (apply hO_call; (· rfl); (· intro w hS; go_simp; exact ⟨rfl, rfl⟩); (· intro w hS; exact callX hS (allR_any s _ _ (hr.ext hS) hg)); simp only [Act.put, List.setIfInBounds_toArray, List.set_cons_zero, List.set_cons_succ]) | (apply hO_if; (· rfl); (· rfl); (· intro hif w hS; go_simp; with_reducible rfl); simp only [Act.put, List.setIfInBounds_toArray, List.set_cons_zero, List.set_cons_succ]) | (apply hO_ifcall; (· rfl); (· rfl); (· intro hif w hS; go_simp; exact ⟨rfl, rfl⟩); (· intro hif w hS; exact callX hS (allR_any s _ _ (hr.ext hS) hg)); simp only [Act.put, List.setIfInBounds_toArray, List.set_cons_zero, List.set_cons_succ]))); refine hO_nil ?_; refine forget_range 8 30 (Nat.le_of_ble_eq_true rfl) (fun junk => ?_); simp only [List.take_succ_cons, List.take_zero, List.drop_succ_cons, List.drop_zero, List.cons_append, List.nil_append, fillF, Nat.reduceAdd]; refine hK _ ?_; clear hK K
  intro w1 hX1
  cases hb : (decide (10 < (s.tasks.length : Int)) || !allB s || decide (i < 0) || decide ((s.tasks.length : Int) ≤ i) || decide (k < 0) || decide ((s.tasks.length : Int) ≤ k)) with
  | true =>
    go_wp2_with (fail)
    go_ret
    exact ⟨rfl, hL.trans (hX1.below.mono hL.size)⟩
  | false =>
    simp only [Bool.or_eq_false_iff, decide_eq_false_iff_not, Bool.not_eq_false'] at hb
    obtain ⟨⟨⟨⟨⟨hb1, hb2⟩, hb3⟩, hb4⟩, hb5⟩, hb6⟩ := hb
    obtain ⟨i, rfl⟩ := Int.eq_ofNat_of_zero_le (Int.not_lt.1 hb3)
    obtain ⟨k, rfl⟩ := Int.eq_ofNat_of_zero_le (Int.not_lt.1 hb5)
    have hi : i < s.tasks.length := by omega
    have hk : k < s.tasks.length := by omega
    go_wp2_with (fail)
    refine (put_any s _ _ (hr.ext hX1) hf).mono ?_
    rintro e w2 ⟨v2, ps, rfl, hP, hps, hbel⟩
    have hn : ps.length = s.tasks.length := by rw [← hps, List.length_map]
    obtain ⟨g, c2, rfl, hg1, hg2⟩ := hP.head (by intro e; rw [e] at hn; simp at hn; omega)
    unfold setV
    dsimp only
    go_upto_region 4 with (fail)
    have hi' : i < ps.length := by omega
    have hk' : k < ps.length := by omega
    have pn : ∀ j (h : j < ps.length) (h' : j < s.tasks.length), (ps[j]).1 = s.tasks[j] := fun j h h' => by
      have : (ps.map (·.1))[j]? = s.tasks[j]? := by rw [hps]
      simpa [h, h'] using this
    have hS0 : RowS w1 g ps.length c2 ps i k hi' s.tasks[k].name w2.heap.size #[.int .i64 s.reload, .slice (some ⟨g, 0, none⟩) ps.length c2] (w2.alloc (.cells #[.int .i64 s.reload, .slice (some ⟨g, 0, none⟩) ps.length c2] 48)) := by
      refine ⟨(ps[i]).1.name, fun e => by subst e; rw [pn i hi' hi], ?_, Blk.new _ _ _, (Ext.mk hbel).alloc _, hg1⟩
      rw [show ({ (ps[i]).1 with name := (ps[i]).1.name } : Tsk) = (ps[i]).1 from rfl, show ((ps[i]).1, (ps[i]).2) = ps[i] from rfl, List.set_getElem_self]
      exact hP.ext ((Ext.refl _).alloc _)
    rw [hn] at hS0 ⊢
    obtain ⟨W4, hW4⟩ : ∃ W4, W4 = w2.alloc (.cells #[.int .i64 s.reload, .slice (some ⟨g, 0, none⟩) s.tasks.length c2] 48) := ⟨_, rfl⟩
    rw [← hW4] at hS0 ⊢
    clear hW4
    obtain ⟨S0, hS⟩ : ∃ S0, S0 = RowS w1 g s.tasks.length c2 ps i k hi' s.tasks[k].name w2.heap.size #[.int .i64 s.reload, .slice (some ⟨g, 0, none⟩) s.tasks.length c2] := ⟨_, rfl⟩
    have hSx : ∀ a b, Und S0 a → Ext a b → Und S0 b := by rw [hS]; unfold Und; exact fun a b h hx => h.ext hx
    have f1 : ∀ a, Und S0 a → ∀ j, a.cell? ⟨w2.heap.size, j, none⟩ = #[.int .i64 s.reload, .slice (some ⟨g, 0, none⟩) s.tasks.length c2][j]? := by rw [hS]; unfold Und; exact fun a h => h.box
    have f2 : ∀ a, Und S0 a → a.cell? ⟨g, k * 9, none⟩ = some (.string s.tasks[k].name) := by rw [hS]; unfold Und; exact fun a h => h.name hk' (by rw [pn k hk' hk])
    have f3 : ∀ a, Und S0 a → (∃ v, a.cell? ⟨g, i * 9, none⟩ = some v) ∧ a.frozen? ⟨g, i * 9, none⟩ = false := by rw [hS]; unfold Und; exact fun a h => h.there
    have f5 : ∀ a, Und S0 a → Und S0 (a.setCell ⟨g, i * 9, none⟩ (.string s.tasks[k].name)) ∧ ∀ b, Ext (a.setCell ⟨g, i * 9, none⟩ (.string s.tasks[k].name)) b → Tasks b (.slice (some ⟨g, 0, none⟩) s.tasks.length c2) (s.named i s.tasks[k].name).tasks ∧ Ext w1 b ∧ (∀ j, b.cell? ⟨w2.heap.size, j, none⟩ = #[.int .i64 s.reload, .slice (some ⟨g, 0, none⟩) s.tasks.length c2][j]?) := by
      rw [hS]
      unfold Und
      intro a h
      refine ⟨h.store.1, fun b hb => ⟨?_, ?_, ?_⟩⟩
      · have := (h.store.2.ext hb).tasks
        rw [map_modify hi', hps] at this
        exact this
      · obtain ⟨_, _, _, _, h4, _⟩ := h.store.1
        exact h4.trans hb
      · exact (h.store.1.ext hb).box
    have hS4 : Und S0 W4 := by rw [hS]; unfold Und; exact hS0
    clear hS hS0
    refine wp_region_mix (T := [11]) (S := Und S0) (W := W4) hSx (by kernel_rfl) (by kernel_rfl) (Ext.refl _).drew hS4 (fun _ _ h => h) (fun K hK => ?_)
    have hSX := Lib.hid hSx
    clear hSx
    (repeat (first | (refine hX_skip ?_ ?_; (· rfl)) | (apply hX_and; (· rfl); (· rfl); (· rfl); (· rfl); (· rfl); simp only [Act.put, List.setIfInBounds_toArray, List.set_cons_zero, List.set_cons_succ]) | (apply hX_or; (· rfl); (· rfl); (· rfl); (· rfl); (· rfl); simp only [Act.put, List.setIfInBounds_toArray, List.set_cons_zero, List.set_cons_succ]) | (apply hX_off; (· rfl); (· rfl); (· rfl); simp only [Act.put, List.setIfInBounds_toArray, List.set_cons_zero, List.set_cons_succ]) | (apply hX_val; (· rfl); (· intro w hS; go_simp; with_reducible rfl); (· rfl); simp only [Act.put, List.setIfInBounds_toArray, List.set_cons_zero, List.set_cons_succ]) | (apply hX_call; (· rfl); (· rfl); (· intro w hS; go_simp; exact ⟨rfl, rfl⟩); (· intro w hS; fail); simp only [Act.put, List.setIfInBounds_toArray, List.set_cons_zero, List.set_cons_succ]) | (apply hX_if; (· rfl); (· rfl); (· rfl); (· intro hif w hS; go_simp; with_reducible rfl); simp only [Act.put, List.setIfInBounds_toArray, List.set_cons_zero, List.set_cons_succ]) | (apply hX_ifcall; (· rfl); (· rfl); (· rfl); (· intro hif w hS; go_simp; exact ⟨rfl, rfl⟩); (· intro hif w hS; fail); simp only [Act.put, List.setIfInBounds_toArray, List.set_cons_zero, List.set_cons_succ]))); refine hX_nil ?_
    refine hK _ ?_
    clear hK K
    refine wpX_want (i := 11) (by kernel_rfl) rfl (by simp [Region.wanted, yielded]) ?_
    intro w' hx K hK
    have hSw := hSX.out _ _ hS4 hx
    obtain ⟨⟨v0, e1⟩, e2⟩ := f3 _ hSw
    go_simp
    refine hK _ _ (f5 _ hSw).1 ?_
    clear hK K
    refine wpX_done (by kernel_rfl) (fun w5 hx5 => ?_) _
    have h5 := f5 _ hSw
    have hT := (h5.2 _ hx5).1
    have hX5 : Ext W w5 := hX1.trans (h5.2 _ hx5).2.1
    have hc5 : ∀ b, Ext w5 b → ∀ j, b.cell? ⟨w2.heap.size, j, none⟩ = #[.int .i64 s.reload, .slice (some ⟨g, 0, none⟩) s.tasks.length c2][j]? := fun b hb => (h5.2 _ (hx5.trans hb)).2.2
    have hc0 : ∀ b, Ext w5 b → ∀ j, b.cell? ⟨w.heap.size, j, none⟩ = #[.int .i64 s.reload, (.slice A s.tasks.length c)][j]? := fun b hb => hc b (hX5.trans hb)
    have hr5 := hr.ext hX5
    have hG5 := hG0.below hX5.below
    have hg5 : (s.named i s.tasks[k].name).good := fun x hm => by
      obtain ⟨j, hj, rfl⟩ := List.mem_iff_getElem.1 hm
      simp only [TSet.named, List.getElem_modify]
      split
      · exact hg s.tasks[k] (List.getElem_mem hk)
      · exact hg _ (List.getElem_mem _)
    obtain ⟨e3, e4⟩ := named_all hb2 hi hk
    have e5 : decide (i = k) = decide ((i : Int) = (k : Int)) := by rw [Bool.eq_iff_iff, decide_eq_true_eq, decide_eq_true_eq]; omega
    rw [e5] at e3 e4
    clear h5 f1 f2 f3 f5 hSX hc pn e1 e2 e5 hS4 hx hx5 hSw hX1 hP hbel hB
    go_upto_region 5 with (fail)
    have ca : ∀ b, Ext w5 b → Calls Tryd.prog 25 #[.agg #[.int .i64 s.reload, .slice (some ⟨g, 0, none⟩) s.tasks.length c2]] b fun e w' => e = .returned (.bool (decide ((i : Int) = (k : Int)))) ∧ Ext w5 w' := fun b hS => by
      rw [← e3]
      exact callX hS (all_any (s.named i s.tasks[k].name) (.slice (some ⟨g, 0, none⟩) s.tasks.length c2) b (hT.ext hS) hg5 (hG5.below hS.below))
    have cs : ∀ b, Ext w5 b → Calls Tryd.prog 28 #[.agg #[.int .i64 s.reload, .slice (some ⟨g, 0, none⟩) s.tasks.length c2], .agg #[.int .i64 s.reload, .slice A s.tasks.length c]] b fun e w' => e = .returned (.bool (decide ((i : Int) = (k : Int)))) ∧ Ext w5 w' := fun b hS => by
      rw [← e4]
      exact callX hS (sameS_any (s.named i s.tasks[k].name) s (.slice (some ⟨g, 0, none⟩) s.tasks.length c2) (.slice A s.tasks.length c) b (hT.ext hS) (hr5.ext hS))
    have ck : ∀ b, Ext w5 b → Calls Tryd.prog 24 #[] b fun e w' => e = .returned (.bool true) ∧ Ext w5 w' := fun b hS => callX hS (known5_any b (hG5.below hS.below))
    have CA := Lib.hid ca; have CS := Lib.hid cs; have CK := Lib.hid ck
    clear ca cs ck
    refine wp_region_all' (S := Ext w5) (Ext.refl _) (fun K hK => ?_); (repeat (first | (apply hO_and; (· rfl); (· rfl); (· rfl); (· rfl); simp only [Act.put, List.setIfInBounds_toArray, List.set_cons_zero, List.set_cons_succ]) | (apply hO_or; (· rfl); (· rfl); (· rfl); (· rfl); simp only [Act.put, List.setIfInBounds_toArray, List.set_cons_zero, List.set_cons_succ]) | (apply hO_off; (· rfl); (· rfl); simp only [Act.put, List.setIfInBounds_toArray, List.set_cons_zero, List.set_cons_succ]) | (apply hO_val; (· intro w hS; go_simp; with_reducible rfl); (· rfl); simp only [Act.put, List.setIfInBounds_toArray, List.set_cons_zero, List.set_cons_succ]) | (apply hO_call; (· rfl); (· intro w hS; go_simp; exact ⟨rfl, rfl⟩); (· intro w hS; first | exact CA.out w hS | exact CS.out w hS | exact CK.out w hS); simp only [Act.put, List.setIfInBounds_toArray, List.set_cons_zero, List.set_cons_succ]) | (apply hO_if; (· rfl); (· rfl); (· intro hif w hS; go_simp; with_reducible rfl); simp only [Act.put, List.setIfInBounds_toArray, List.set_cons_zero, List.set_cons_succ]) | (apply hO_ifcall; (· rfl); (· rfl); (· intro hif w hS; go_simp; exact ⟨rfl, rfl⟩); (· intro hif w hS; first | exact CA.out w hS | exact CS.out w hS | exact CK.out w hS); simp only [Act.put, List.setIfInBounds_toArray, List.set_cons_zero, List.set_cons_succ]))); refine hO_nil ?_; refine hK _ ?_; clear hK K
    intro w6 hX6
    go_wp2_with (fail)
    go_ret
    exact ⟨rb (by simp [Bool.beq_eq_decide_eq]), hL.trans ((hX5.trans hX6).below.mono hL.size)⟩
end Go.Proofs.YtakiicbcephbhaaDoor
