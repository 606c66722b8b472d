/- A set whose tasks are new memory. -/
import Derived.Test.YtniejidekflmiaaGreatDoorProg
import Derived.Test.YtniejidekflmiaaGreatDoorBase
import Derived.Test.YtniejidekflmiaaGreatDoorHeldX
import Derived.Test.YtniejidekflmiaaGreatDoorApp
import Derived.Test.YtniejidekflmiaaGreatDoorTsk1
import Derived.Test.YtniejidekflmiaaGreatDoorTsk3
import Derived.Test.YtniejidekflmiaaGreatDoorTskZ
import Derived.Test.YtniejidekflmiaaGreatDoorTskO
import Derived.Test.YtniejidekflmiaaGreatDoorSetO
import Derived.Deep.Cut
import Derived.Maps.AppendAt
import Derived.Deep.DeepMust
namespace Go.Proofs.YtniejidekflmiaaGreatDoor
open Go.RowKit
attribute [local go_sem] setCell_twice ByteArray.toList_eq str_list Ext.alloc Ext.drew
set_option linter.unusedSimpArgs false

/-- a task's cells -/
def encT (p : Tsk × Value) : List Value := [.string p.1.name, .int .i64 p.1.T, .int .i64 p.1.D, .int .i64 p.1.mode, .int .i64 p.1.q, .int .i64 p.1.theta, p.2, .int .u64 p.1.ecb, .int .u64 p.1.ucb]
theorem infoTask : (Tryz.prog.info? 38).map (fun i => (i.zero, i.size, i.bytes)) = some (some (.agg #[.string ⟨#[]⟩, .int .i64 0, .int .i64 0, .int .i64 0, .int .i64 0, .int .i64 0, .slice none 0 0, .int .u64 0, .int .u64 0]), 9, 96) := by kernel_rfl
/-- tasks of the call's own: the row, and each one's regions, all apart -/
def PutOwn (w : World) (base : Nat) (v : Value) (ps : List (Tsk × Value)) : Prop :=
  OwnL encT w base 38 9 v ps ∧ (∀ p ∈ ps, RowI w base p.2 p.1.regs) ∧ ps.Pairwise (fun p q => ∀ k, p.2.ownBlock = some k → q.2.ownBlock ≠ some k)
theorem PutOwn.ext {w w' : World} {base : Nat} {v : Value} {ps : List (Tsk × Value)} (h : PutOwn w base v ps) (hx : Ext w w') : PutOwn w' base v ps :=
  ⟨h.1.below hx.below, fun p hp => (h.2.1 p hp).below hx.below, h.2.2⟩
theorem PutOwn.tasks {w : World} {base : Nat} {v : Value} {ps : List (Tsk × Value)} (h : PutOwn w base v ps) : Tasks w v (ps.map (·.1)) := by
  have := h.1.read (R := fun w b o p => TaskAt w b o p.1 p.2) (F := Any) (fun _ => rfl) (fun _ _ _ => trivial) (fun b o p hp hx => ⟨(h.2.1 p hp).ints, hx 0 _ rfl, hx 1 _ rfl, hx 2 _ rfl, hx 3 _ rfl, hx 4 _ rfl, hx 5 _ rfl, hx 6 _ rfl, hx 7 _ rfl, hx 8 _ rfl⟩)
  obtain ⟨A, c, e, h1, h2, h3⟩ := this
  refine ⟨A, c, by rw [List.length_map]; exact e, by rw [List.length_map]; exact h1, h2, fun hne => ?_⟩
  obtain ⟨b, o, e, _, hx⟩ := h3 (fun e => hne (by rw [e]; rfl))
  exact ⟨b, o, e, fun i hi => by
    rw [List.length_map] at hi
    refine ⟨(ps[i]).2, ?_⟩
    have := hx i hi
    rwa [List.getElem_map]⟩
theorem PutOwn.nil {w : World} {base : Nat} : PutOwn w base (.slice none 0 0) [] := ⟨OwnL.nil, by simp, List.Pairwise.nil⟩
theorem encT_one (p : Tsk × Value) {A : Option Addr} {n c : Nat} (hp : p.2 = .slice A n c) : ∀ u ∈ encT p, u.oneCell' = true := by
  intro u hu
  simp only [encT, hp, List.mem_cons, List.not_mem_nil, or_false] at hu
  rcases hu with rfl | rfl | rfl | rfl | rfl | rfl | rfl | rfl | rfl <;> rfl

theorem PutOwn.push {w w' : World} {base : Nat} {v v' r : Value} {ps : List (Tsk × Value)} {x : Tsk} (h : PutOwn w base v ps) (hr : RowI w base r x.regs) (hg : w.grownBy w' v.ownBlock) (ho : OwnL encT w' base 38 9 v' (ps ++ [(x, r)]))
    (hd : ∀ p ∈ ps, ∀ k, p.2.ownBlock = some k → r.ownBlock ≠ some k) : PutOwn w' base v' (ps ++ [(x, r)]) := by
  refine ⟨ho, fun p hp => ?_, ?_⟩
  · rcases List.mem_append.1 hp with hp | hp
    · exact OwnL.grown (h.2.1 p hp) hg (fun k hk e => own_types h.1 (h.2.1 p hp) (by decide) k e hk)
    · obtain rfl := List.mem_singleton.1 hp
      exact OwnL.grown hr hg (fun k hk e => own_types h.1 hr (by decide) k e hk)
  · refine List.pairwise_append.2 ⟨h.2.2, List.pairwise_singleton _ _, fun p hp q hq => ?_⟩
    obtain rfl := List.mem_singleton.1 hq
    exact hd p hp
theorem PutOwn.set {w : World} {base : Nat} {v : Value} {ps : List (Tsk × Value)} (h : PutOwn w base v ps) {g : Nat} {cs : Array Value} (hB : Blk w g cs 24) (i : Nat) (u : Value) : PutOwn (w.setCell ⟨g, i, none⟩ u) base v ps :=
  ⟨h.1.set (a := ⟨g, i, none⟩) (own_ne_blk h.1 hB (by decide)) u, fun p hp => OwnL.set (h.2.1 p hp) (a := ⟨g, i, none⟩) (own_ne_blk (h.2.1 p hp) hB (by decide)) u, h.2.2⟩

set_option maxHeartbeats 6400000 in
set_option maxRecDepth 100000 in
theorem put_any (s : TSet) (v : Value) (w : World) (hv : Tasks w v s.tasks) (hf : s.fit) :
    Calls Tryz.prog 33 #[setV s v] w fun e w' => ∃ v' ps, e = .returned (setV s v') ∧ PutOwn w' w.heap.size v' ps ∧ ps.map (·.1) = s.tasks ∧ Below w.heap.size w w' := by
  have l1 := hv.len
  have hv0 := hv
  obtain ⟨A, c, rfl, _, _, _⟩ := hv0
  go_enter Tryz.func33, Tryz.ntmps33
  unfold setV
  go_wp2_with (fail)
  have hL : Below w.heap.size w (((w.alloc (.cells #[.int .i64 s.reload, .slice A s.tasks.length c] 24)).alloc (.cells #[.int .i64 0, .slice none 0 0] 24)).alloc (.cells #[.int .i64 s.reload, .slice none 0 0] 24)) := (by repeat (first | exact Below.refl _ _ | assumption | refine Below.drew ?_ | refine Below.alloc ?_ (by first | (simp; done) | (simp; omega) | omega) _ | refine Below.setCell ?_ (by first | (simp; done) | (simp; omega) | omega) _))
  have hB : Blk (((w.alloc (.cells #[.int .i64 s.reload, .slice A s.tasks.length c] 24)).alloc (.cells #[.int .i64 0, .slice none 0 0] 24)).alloc (.cells #[.int .i64 s.reload, .slice none 0 0] 24)) w.heap.size #[.int .i64 s.reload, .slice A s.tasks.length c] 24 := ((Blk.new _ _ _).alloc _).alloc _
  have hR : Blk (((w.alloc (.cells #[.int .i64 s.reload, .slice A s.tasks.length c] 24)).alloc (.cells #[.int .i64 0, .slice none 0 0] 24)).alloc (.cells #[.int .i64 s.reload, .slice none 0 0] 24)) (w.heap.size + 1) #[.int .i64 0, .slice none 0 0] 24 := (Blk.new_at _ _ _ _ (by simp)).alloc _
  have hO : Blk (((w.alloc (.cells #[.int .i64 s.reload, .slice A s.tasks.length c] 24)).alloc (.cells #[.int .i64 0, .slice none 0 0] 24)).alloc (.cells #[.int .i64 s.reload, .slice none 0 0] 24)) (w.heap.size + 1 + 1) #[.int .i64 s.reload, .slice none 0 0] 24 := Blk.new_at _ _ _ _ (by simp)
  have hr := hv.ext ⟨hL⟩
  generalize (((w.alloc (.cells #[.int .i64 s.reload, .slice A s.tasks.length c] 24)).alloc (.cells #[.int .i64 0, .slice none 0 0] 24)).alloc (.cells #[.int .i64 s.reload, .slice none 0 0] 24)) = W at hL hB hR hO hr ⊢
  go_loopw [4] (fun i wr => ∃ (k : Nat) (v : Value) (ps : List (Tsk × Value)), k ≤ s.tasks.length ∧ i = .int .i64 k ∧ Hid (ps.map (·.1) = s.tasks.take k) ∧ PutOwn wr w.heap.size v ps ∧ Blk wr w.heap.size #[.int .i64 s.reload, .slice A s.tasks.length c] 24 ∧ Blk wr (w.heap.size + 1) #[.int .i64 0, .slice none 0 0] 24 ∧ Blk wr (w.heap.size + 1 + 1) #[.int .i64 s.reload, v] 24 ∧ Below w.heap.size w wr) (fun i _ => s.tasks.length - (intOf i).toNat)
  case atStart => exact ⟨0, _, [], Nat.zero_le _, rfl, Lib.hid rfl, PutOwn.nil, hB, hR, hO, hL⟩
  case round =>
    obtain ⟨k, v, ps, hk, rfl, HP, hP, hB, hR, hO, hb⟩ := hrel
    by_cases hlt : k < s.tasks.length
    · obtain ⟨b, o, r, rfl, hx⟩ := hv.at hlt
      have hfit := hf.2.2 _ (List.getElem_mem hlt)
      have hst : s.tasks.take (k + 1) = s.tasks.take k ++ [s.tasks[k]] := List.take_succ_eq_append_getElem hlt
      generalize s.tasks[k] = x at hx hfit hst
      have HS := Lib.hid hst; clear hst
      obtain ⟨Ax, cx, rfl⟩ := hx.row
      obtain ⟨x0, x1, x2, x3, x4, x5, x6, x7, x8⟩ := hx.under
      have hX : Ext w wr := ⟨hb⟩
      have hsz := hO.lt
      have hc := hB.cell
      go_upto_region 6 with (fail)
      have hE5 := (Ext.refl wr).alloc (.cells #[.string x.name, .int .i64 x.T, .int .i64 x.D, .int .i64 x.mode, .int .i64 x.q, .int .i64 x.theta, (.slice Ax x.regs.length cx), .int .u64 x.ecb, .int .u64 x.ucb] 38)
      have hB5 : Blk (wr.alloc (.cells #[.string x.name, .int .i64 x.T, .int .i64 x.D, .int .i64 x.mode, .int .i64 x.q, .int .i64 x.theta, (.slice Ax x.regs.length cx), .int .u64 x.ecb, .int .u64 x.ucb] 38)) wr.heap.size #[.string x.name, .int .i64 x.T, .int .i64 x.D, .int .i64 x.mode, .int .i64 x.q, .int .i64 x.theta, (.slice Ax x.regs.length cx), .int .u64 x.ecb, .int .u64 x.ucb] 38 := Blk.new _ _ _
      have hg5 : wr.heap.size ≤ wr.heap.size := Nat.le_refl _
      clear hc x0 x1 x2 x3 x4 x5 x6 x7 x8
      generalize wr.alloc _ = W5 at hE5 hB5 ⊢
      obtain ⟨g5, e5⟩ : ∃ g, g = wr.heap.size := ⟨_, rfl⟩
      rw [← e5] at hB5 ⊢
      have hg5 : wr.heap.size ≤ g5 := by omega
      have HE := Lib.hid e5; clear e5
      have hc5 := hB5.cell
      have hf5 := hB5.free
      have hX5 := hX.trans hE5
      have hl5 := hB5.lt
      go_upto_region 7 with (at_builtin; (refine wpList_append_row rfl _ _ 35 rfl w.heap.size 2 Tryz.underlying35 infoI64 rfl (by decide) _ 0 [] rfl ?_ Ax x.regs.length cx (x.regs.map (.int .i64)) rfl (by simp) ?_ (by simp [Value.oneCell']) ?_ ?_ ?_ ?_; (· exact own_empty_at (by simp) (by have := hX5.size; omega)); (· exact hx.1.news (hX5.alloc _)); (· have := hfit.2.1; omega); (· have := hfit.2.1; unfold maxLen; omega); (· have := hX5.size; simp; omega); (intro v1 w1 hown1 hg1 hloc1 _; obtain ⟨A1, c1, rfl⟩ := own_slice hown1; have hB6 := (hB5.alloc (.cells #[] 2)).grown hg1 (fun e => Nat.ne_of_gt hl5 (Option.some.inj e)); have hc6 := hB6.cell; have hf6 := hB6.free; clear hc5 hf5)))
      have hE1 := (hE5.alloc (.cells #[] 2)).of_grown hg1 hE5.size
      have hE6 : Ext wr (w1.setCell ⟨g5, 6, none⟩ (.slice A1 (0 + x.regs.length) c1)) := hE1.set hg5 _
      have hB7 := hB6.set 6 (.slice A1 (0 + x.regs.length) c1)
      have hv1 : ∀ j, (Value.slice A1 (0 + x.regs.length) c1).ownBlock = some j → W5.heap.size ≤ j := fun j hj => by
        rcases hloc1 with h | h
        · rw [hj] at h
          have e : j = W5.heap.size := Option.some.inj h
          omega
        · rw [hj] at h
          have e := Option.some.inj h
          rw [size_alloc] at e
          omega
      have hrow : RowI (w1.setCell ⟨g5, 6, none⟩ (.slice A1 (0 + x.regs.length) c1)) w.heap.size (.slice A1 (0 + x.regs.length) c1) x.regs := by
        have h0 : RowI w1 w.heap.size (.slice A1 (0 + x.regs.length) c1) x.regs := by
          unfold RowI OwnL
          rw [encI_flat]
          have := hown1
          rw [Nat.zero_add, List.nil_append] at this
          rw [Nat.zero_add]
          exact this
        exact OwnL.set h0 (a := ⟨g5, 6, none⟩) (fun e => by have h2 : W5.heap.size ≤ g5 := hv1 g5 e; omega) _
      rw [Nat.zero_add] at hE6 hB7 hv1 hrow
      clear hown1 hg1 hloc1 hE1 hc6 hf6 hB6
      generalize w1.setCell _ _ = W6 at hE6 hB7 hrow ⊢
      simp only [List.setIfInBounds_toArray, List.set_cons_zero, List.set_cons_succ] at hB7
      have hlen : ps.length = k := by
        have := congrArg List.length HP.out
        rw [List.length_map, List.length_take] at this
        omega
      have hd : ∀ p ∈ ps, ∀ j, p.2.ownBlock = some j → (Value.slice A1 x.regs.length c1).ownBlock ≠ some j := fun p hp j hj e => by
        have h1 := (OwnL.lt (hP.2.1 p hp) j hj).2
        have h2 : W5.heap.size ≤ j := hv1 j e
        have h1 : j < wr.heap.size := h1
        have h3 : wr.heap.size ≤ W5.heap.size := hE5.size
        omega
      have hP6 := hP.ext hE6
      have hB6 := hB.ext hE6
      have hR6 := hR.ext hE6
      have hO6 := hO.ext hE6
      have hb6 : Below w.heap.size w W6 := (hX.trans hE6).below
      have HL := Lib.hid hlen; clear hlen
      have HD := Lib.hid hd; clear hd
      clear hE6 hP hB hR hO hb hX hX5 hE5 hB5 hv1 hx
      obtain ⟨Av, cv, rfl, _, _⟩ := hP6.1.form
      have hc7 := hB7.cell
      have hc8 := hO6.cell
      have hf8 := hO6.free
      have hlt6 := hO6.lt
      go_wp2_with (at_builtin; (refine wpList_push rfl _ _ 22 rfl w.heap.size 38 Tryz.underlying22 infoTask rfl (by decide) (by decide) encT ps _ rfl (hP6.1.alloc _) (x, .slice A1 x.regs.length c1) W6.heap.size #[.string x.name, .int .i64 x.T, .int .i64 x.D, .int .i64 x.mode, .int .i64 x.q, .int .i64 x.theta, (.slice A1 x.regs.length c1), .int .u64 x.ecb, .int .u64 x.ucb] 38 rfl (Blk.new _ _ _) rfl rfl (encT_one _ rfl) ?_ ?_ ?_; (· have := HL.out; have := hf.2.1; omega); (· have := hb6.size; simp; omega); (intro v2 w2 hown2 hg2 hloc2 _; obtain ⟨A2, c2, rfl⟩ := own_slice hown2; have hO7 := (hO6.alloc (.cells #[.string x.name, .int .i64 x.T, .int .i64 x.D, .int .i64 x.mode, .int .i64 x.q, .int .i64 x.theta, (.slice A1 x.regs.length c1), .int .u64 x.ecb, .int .u64 x.ucb] 38)).grown hg2 (own_ne_blk hP6.1 hO6 (by decide)); have hc9 := hO7.cell; have hf9 := hO7.free; clear hc8 hf8 hc7)))
      have hA7 := (Ext.refl W6).alloc (.cells #[.string x.name, .int .i64 x.T, .int .i64 x.D, .int .i64 x.mode, .int .i64 x.q, .int .i64 x.theta, (.slice A1 x.regs.length c1), .int .u64 x.ecb, .int .u64 x.ucb] 38)
      have hP8 := (hP6.ext hA7).push (OwnL.alloc hrow _) hg2 hown2 HD.out
      have hP9 := hP8.set hO7 1 (.slice A2 (ps.length + 1) c2)
      rw [List.length_append, List.length_singleton] at hP9
      refine ⟨⟨k + 1, _, _, hlt, rfl, Lib.hid (by rw [List.map_append, HP.out, HS.out]; rfl), hP9, ?_, ?_, ?_, ?_⟩, by simp [intOf]; omega⟩
      · exact (((hB6.alloc _).grown hg2 (own_ne_blk hP6.1 hB6 (by decide))).far (by simp; omega) _)
      · exact (((hR6.alloc _).grown hg2 (own_ne_blk hP6.1 hR6 (by decide))).far (by simp) _)
      · have := hO7.set 1 (.slice A2 (ps.length + 1) c2)
        simpa using this
      · refine Below.setCell ?_ (by simp; omega) _
        exact Below.grown (hb6.alloc hb6.size _) hg2 (by have := hb6.size; simp; omega) (fun j hj => (OwnL.lt hP6.1 j hj).1)
    · obtain rfl : k = s.tasks.length := by omega
      have hc := hB.cell
      have hc2 := hO.cell
      have hc3 := hR.cell
      have hf3 := hR.free
      obtain ⟨Av, cv, rfl, _, _⟩ := hP.1.form
      go_wp2_with (fail)
      have hR2 := hR.set 0 (.int .i64 s.reload)
      have hR3 := hR2.set 1 (.slice Av ps.length cv)
      have hcR := hR3.cell
      refine bodyPost_ret (v := setV s (.slice Av ps.length cv)) ?_ rfl ⟨_, ps, rfl, (hP.set hR 0 _).set hR2 1 _, by rw [HP.out, List.take_length], ?_⟩
      · simp [results, Tryz.results33, go_sem, hcR, setV]
      · exact (hb.setCell (by simp) _).setCell (by simp) _
end Go.Proofs.YtniejidekflmiaaGreatDoor
