/- Lemmas: A set whose tasks are new memory; Numbers: what num answers; How many bits are set: bits.OnesCount64, bits.Count; ref2; Caches: who touched each set last; Jobs; What the kernel is made of: closures, clones; Tables of jobs. -/
import Derived.Test.YtlaflbepidkmnaaProg
import Derived.Test.YtlaflbepidkmnaaZd5
import Derived.Deep.Cut
import Derived.Maps.AppendAt
import Derived.Deep.DeepMust
import Derived.WalkKit
import Derived.Laws.FloatArith
import Derived.Lib.Hide
import Derived.Laws.Bits64b
import Derived.Laws.Bits128
import Derived.Lib.TrailingZeros
import Derived.Shelf.Spec.TrailingZeros
import Derived.OwnWalk
import Derived.Deep.MidRow
import Derived.BigQuiet
import Derived.Lib.BufferMore
/- TskP -/
namespace Go.Proofs.Ytlaflbepidkmnaa
open Go.RowKit
attribute [local go_sem] setCell_twice ByteArray.toList_eq str_list Ext.alloc Ext.drew
set_option linter.unusedSimpArgs false

/-- a task's cells -/
def encT (p : Tsk × Value) : List Value := [.string p.1.name, .int .i64 p.1.T, .int .i64 p.1.D, .int .i64 p.1.mode, .int .i64 p.1.q, .int .i64 p.1.theta, p.2, .int .u64 p.1.ecb, .int .u64 p.1.ucb]
theorem infoTask : (Try.prog.info? 34).map (fun i => (i.zero, i.size, i.bytes)) = some (some (.agg #[.string ⟨#[]⟩, .int .i64 0, .int .i64 0, .int .i64 0, .int .i64 0, .int .i64 0, .slice none 0 0, .int .u64 0, .int .u64 0]), 9, 96) := by kernel_rfl
/-- tasks of the call's own: the row, and each one's regions, all apart -/
def PutOwn (w : World) (base : Nat) (v : Value) (ps : List (Tsk × Value)) : Prop :=
  OwnL encT w base 34 9 v ps ∧ (∀ p ∈ ps, RowI w base p.2 p.1.regs) ∧ ps.Pairwise (fun p q => ∀ k, p.2.ownBlock = some k → q.2.ownBlock ≠ some k)
theorem PutOwn.ext {w w' : World} {base : Nat} {v : Value} {ps : List (Tsk × Value)} (h : PutOwn w base v ps) (hx : Ext w w') : PutOwn w' base v ps :=
  ⟨h.1.below hx.below, fun p hp => (h.2.1 p hp).below hx.below, h.2.2⟩
theorem PutOwn.tasks {w : World} {base : Nat} {v : Value} {ps : List (Tsk × Value)} (h : PutOwn w base v ps) : Tasks w v (ps.map (·.1)) := by
  have := h.1.read (R := fun w b o p => TaskAt w b o p.1 p.2) (F := Any) (fun _ => rfl) (fun _ _ _ => trivial) (fun b o p hp hx => ⟨(h.2.1 p hp).ints, hx 0 _ rfl, hx 1 _ rfl, hx 2 _ rfl, hx 3 _ rfl, hx 4 _ rfl, hx 5 _ rfl, hx 6 _ rfl, hx 7 _ rfl, hx 8 _ rfl⟩)
  obtain ⟨A, c, e, h1, h2, h3⟩ := this
  refine ⟨A, c, by rw [List.length_map]; exact e, by rw [List.length_map]; exact h1, h2, fun hne => ?_⟩
  obtain ⟨b, o, e, _, hx⟩ := h3 (fun e => hne (by rw [e]; rfl))
  exact ⟨b, o, e, fun i hi => by
    rw [List.length_map] at hi
    refine ⟨(ps[i]).2, ?_⟩
    have := hx i hi
    rwa [List.getElem_map]⟩
theorem PutOwn.nil {w : World} {base : Nat} : PutOwn w base (.slice none 0 0) [] := ⟨OwnL.nil, by simp, List.Pairwise.nil⟩
theorem encT_one (p : Tsk × Value) {A : Option Addr} {n c : Nat} (hp : p.2 = .slice A n c) : ∀ u ∈ encT p, u.oneCell' = true := by
  intro u hu
  simp only [encT, hp, List.mem_cons, List.not_mem_nil, or_false] at hu
  rcases hu with rfl | rfl | rfl | rfl | rfl | rfl | rfl | rfl | rfl <;> rfl

theorem PutOwn.push {w w' : World} {base : Nat} {v v' r : Value} {ps : List (Tsk × Value)} {x : Tsk} (h : PutOwn w base v ps) (hr : RowI w base r x.regs) (hg : w.grownBy w' v.ownBlock) (ho : OwnL encT w' base 34 9 v' (ps ++ [(x, r)]))
    (hd : ∀ p ∈ ps, ∀ k, p.2.ownBlock = some k → r.ownBlock ≠ some k) : PutOwn w' base v' (ps ++ [(x, r)]) := by
  refine ⟨ho, fun p hp => ?_, ?_⟩
  · rcases List.mem_append.1 hp with hp | hp
    · exact OwnL.grown (h.2.1 p hp) hg (fun k hk e => own_types h.1 (h.2.1 p hp) (by decide) k e hk)
    · obtain rfl := List.mem_singleton.1 hp
      exact OwnL.grown hr hg (fun k hk e => own_types h.1 hr (by decide) k e hk)
  · refine List.pairwise_append.2 ⟨h.2.2, List.pairwise_singleton _ _, fun p hp q hq => ?_⟩
    obtain rfl := List.mem_singleton.1 hq
    exact hd p hp
theorem PutOwn.set {w : World} {base : Nat} {v : Value} {ps : List (Tsk × Value)} (h : PutOwn w base v ps) {g : Nat} {cs : Array Value} (hB : Blk w g cs 24) (i : Nat) (u : Value) : PutOwn (w.setCell ⟨g, i, none⟩ u) base v ps :=
  ⟨h.1.set (a := ⟨g, i, none⟩) (own_ne_blk h.1 hB (by decide)) u, fun p hp => OwnL.set (h.2.1 p hp) (a := ⟨g, i, none⟩) (own_ne_blk (h.2.1 p hp) hB (by decide)) u, h.2.2⟩

set_option maxHeartbeats 6400000 in
set_option maxRecDepth 100000 in
theorem put_any (s : TSet) (v : Value) (w : World) (hv : Tasks w v s.tasks) (hf : s.fit) :
    Calls Try.prog 9 #[setV s v] w fun e w' => ∃ v' ps, e = .returned (setV s v') ∧ PutOwn w' w.heap.size v' ps ∧ ps.map (·.1) = s.tasks ∧ Below w.heap.size w w' := by
  have l1 := hv.len
  have hv0 := hv
  obtain ⟨A, c, rfl, _, _, _⟩ := hv0
  go_enter Try.func9, Try.ntmps9
  unfold setV
  go_wp2_with (fail)
  have hL : Below w.heap.size w (((w.alloc (.cells #[.int .i64 s.reload, .slice A s.tasks.length c] 24)).alloc (.cells #[.int .i64 0, .slice none 0 0] 24)).alloc (.cells #[.int .i64 s.reload, .slice none 0 0] 24)) := (by repeat (first | exact Below.refl _ _ | assumption | refine Below.drew ?_ | refine Below.alloc ?_ (by first | (simp; done) | (simp; omega) | omega) _ | refine Below.setCell ?_ (by first | (simp; done) | (simp; omega) | omega) _))
  have hB : Blk (((w.alloc (.cells #[.int .i64 s.reload, .slice A s.tasks.length c] 24)).alloc (.cells #[.int .i64 0, .slice none 0 0] 24)).alloc (.cells #[.int .i64 s.reload, .slice none 0 0] 24)) w.heap.size #[.int .i64 s.reload, .slice A s.tasks.length c] 24 := ((Blk.new _ _ _).alloc _).alloc _
  have hR : Blk (((w.alloc (.cells #[.int .i64 s.reload, .slice A s.tasks.length c] 24)).alloc (.cells #[.int .i64 0, .slice none 0 0] 24)).alloc (.cells #[.int .i64 s.reload, .slice none 0 0] 24)) (w.heap.size + 1) #[.int .i64 0, .slice none 0 0] 24 := (Blk.new_at _ _ _ _ (by simp)).alloc _
  have hO : Blk (((w.alloc (.cells #[.int .i64 s.reload, .slice A s.tasks.length c] 24)).alloc (.cells #[.int .i64 0, .slice none 0 0] 24)).alloc (.cells #[.int .i64 s.reload, .slice none 0 0] 24)) (w.heap.size + 1 + 1) #[.int .i64 s.reload, .slice none 0 0] 24 := Blk.new_at _ _ _ _ (by simp)
  have hr := hv.ext ⟨hL⟩
  generalize (((w.alloc (.cells #[.int .i64 s.reload, .slice A s.tasks.length c] 24)).alloc (.cells #[.int .i64 0, .slice none 0 0] 24)).alloc (.cells #[.int .i64 s.reload, .slice none 0 0] 24)) = W at hL hB hR hO hr ⊢
  go_loopw [4] (fun i wr => ∃ (k : Nat) (v : Value) (ps : List (Tsk × Value)), k ≤ s.tasks.length ∧ i = .int .i64 k ∧ Hid (ps.map (·.1) = s.tasks.take k) ∧ PutOwn wr w.heap.size v ps ∧ Blk wr w.heap.size #[.int .i64 s.reload, .slice A s.tasks.length c] 24 ∧ Blk wr (w.heap.size + 1) #[.int .i64 0, .slice none 0 0] 24 ∧ Blk wr (w.heap.size + 1 + 1) #[.int .i64 s.reload, v] 24 ∧ Below w.heap.size w wr) (fun i _ => s.tasks.length - (intOf i).toNat)
  case atStart => exact ⟨0, _, [], Nat.zero_le _, rfl, Lib.hid rfl, PutOwn.nil, hB, hR, hO, hL⟩
  case round =>
    obtain ⟨k, v, ps, hk, rfl, HP, hP, hB, hR, hO, hb⟩ := hrel
    by_cases hlt : k < s.tasks.length
    · obtain ⟨b, o, r, rfl, hx⟩ := hv.at hlt
      have hfit := hf.2.2 _ (List.getElem_mem hlt)
      have hst : s.tasks.take (k + 1) = s.tasks.take k ++ [s.tasks[k]] := List.take_succ_eq_append_getElem hlt
      generalize s.tasks[k] = x at hx hfit hst
      have HS := Lib.hid hst; clear hst
      obtain ⟨Ax, cx, rfl⟩ := hx.row
      obtain ⟨x0, x1, x2, x3, x4, x5, x6, x7, x8⟩ := hx.under
      have hX : Ext w wr := ⟨hb⟩
      have hsz := hO.lt
      have hc := hB.cell
      go_upto_region 6 with (fail)
      have hE5 := (Ext.refl wr).alloc (.cells #[.string x.name, .int .i64 x.T, .int .i64 x.D, .int .i64 x.mode, .int .i64 x.q, .int .i64 x.theta, (.slice Ax x.regs.length cx), .int .u64 x.ecb, .int .u64 x.ucb] 34)
      have hB5 : Blk (wr.alloc (.cells #[.string x.name, .int .i64 x.T, .int .i64 x.D, .int .i64 x.mode, .int .i64 x.q, .int .i64 x.theta, (.slice Ax x.regs.length cx), .int .u64 x.ecb, .int .u64 x.ucb] 34)) wr.heap.size #[.string x.name, .int .i64 x.T, .int .i64 x.D, .int .i64 x.mode, .int .i64 x.q, .int .i64 x.theta, (.slice Ax x.regs.length cx), .int .u64 x.ecb, .int .u64 x.ucb] 34 := Blk.new _ _ _
      have hg5 : wr.heap.size ≤ wr.heap.size := Nat.le_refl _
      clear hc x0 x1 x2 x3 x4 x5 x6 x7 x8
      generalize wr.alloc _ = W5 at hE5 hB5 ⊢
      obtain ⟨g5, e5⟩ : ∃ g, g = wr.heap.size := ⟨_, rfl⟩
      rw [← e5] at hB5 ⊢
      have hg5 : wr.heap.size ≤ g5 := by omega
      have HE := Lib.hid e5; clear e5
      have hc5 := hB5.cell
      have hf5 := hB5.free
      have hX5 := hX.trans hE5
      have hl5 := hB5.lt
      go_upto_region 7 with (at_builtin; (refine wpList_append_row rfl _ _ 31 rfl w.heap.size 2 Try.underlying31 infoI64 rfl (by decide) _ 0 [] rfl ?_ Ax x.regs.length cx (x.regs.map (.int .i64)) rfl (by simp) ?_ (by simp [Value.oneCell']) ?_ ?_ ?_ ?_; (· exact own_empty_at (by simp) (by have := hX5.size; omega)); (· exact hx.1.news (hX5.alloc _)); (· have := hfit.2.1; omega); (· have := hfit.2.1; unfold maxLen; omega); (· have := hX5.size; simp; omega); (intro v1 w1 hown1 hg1 hloc1 _; obtain ⟨A1, c1, rfl⟩ := own_slice hown1; have hB6 := (hB5.alloc (.cells #[] 2)).grown hg1 (fun e => Nat.ne_of_gt hl5 (Option.some.inj e)); have hc6 := hB6.cell; have hf6 := hB6.free; clear hc5 hf5)))
      have hE1 := (hE5.alloc (.cells #[] 2)).of_grown hg1 hE5.size
      have hE6 : Ext wr (w1.setCell ⟨g5, 6, none⟩ (.slice A1 (0 + x.regs.length) c1)) := hE1.set hg5 _
      have hB7 := hB6.set 6 (.slice A1 (0 + x.regs.length) c1)
      have hv1 : ∀ j, (Value.slice A1 (0 + x.regs.length) c1).ownBlock = some j → W5.heap.size ≤ j := fun j hj => by
        rcases hloc1 with h | h
        · rw [hj] at h
          have e : j = W5.heap.size := Option.some.inj h
          omega
        · rw [hj] at h
          have e := Option.some.inj h
          rw [size_alloc] at e
          omega
      have hrow : RowI (w1.setCell ⟨g5, 6, none⟩ (.slice A1 (0 + x.regs.length) c1)) w.heap.size (.slice A1 (0 + x.regs.length) c1) x.regs := by
        have h0 : RowI w1 w.heap.size (.slice A1 (0 + x.regs.length) c1) x.regs := by
          unfold RowI OwnL
          rw [encI_flat]
          have := hown1
          rw [Nat.zero_add, List.nil_append] at this
          rw [Nat.zero_add]
          exact this
        exact OwnL.set h0 (a := ⟨g5, 6, none⟩) (fun e => by have h2 : W5.heap.size ≤ g5 := hv1 g5 e; omega) _
      rw [Nat.zero_add] at hE6 hB7 hv1 hrow
      clear hown1 hg1 hloc1 hE1 hc6 hf6 hB6
      generalize w1.setCell _ _ = W6 at hE6 hB7 hrow ⊢
      simp only [List.setIfInBounds_toArray, List.set_cons_zero, List.set_cons_succ] at hB7
      have hlen : ps.length = k := by
        have := congrArg List.length HP.out
        rw [List.length_map, List.length_take] at this
        omega
      have hd : ∀ p ∈ ps, ∀ j, p.2.ownBlock = some j → (Value.slice A1 x.regs.length c1).ownBlock ≠ some j := fun p hp j hj e => by
        have h1 := (OwnL.lt (hP.2.1 p hp) j hj).2
        have h2 : W5.heap.size ≤ j := hv1 j e
        have h1 : j < wr.heap.size := h1
        have h3 : wr.heap.size ≤ W5.heap.size := hE5.size
        omega
      have hP6 := hP.ext hE6
      have hB6 := hB.ext hE6
      have hR6 := hR.ext hE6
      have hO6 := hO.ext hE6
      have hb6 : Below w.heap.size w W6 := (hX.trans hE6).below
      have HL := Lib.hid hlen; clear hlen
      have HD := Lib.hid hd; clear hd
      clear hE6 hP hB hR hO hb hX hX5 hE5 hB5 hv1 hx
      obtain ⟨Av, cv, rfl, _, _⟩ := hP6.1.form
      have hc7 := hB7.cell
      have hc8 := hO6.cell
      have hf8 := hO6.free
      have hlt6 := hO6.lt
      go_wp2_with (at_builtin; (refine wpList_push rfl _ _ 22 rfl w.heap.size 34 Try.underlying22 infoTask rfl (by decide) (by decide) encT ps _ rfl (hP6.1.alloc _) (x, .slice A1 x.regs.length c1) W6.heap.size #[.string x.name, .int .i64 x.T, .int .i64 x.D, .int .i64 x.mode, .int .i64 x.q, .int .i64 x.theta, (.slice A1 x.regs.length c1), .int .u64 x.ecb, .int .u64 x.ucb] 34 rfl (Blk.new _ _ _) rfl rfl (encT_one _ rfl) ?_ ?_ ?_; (· have := HL.out; have := hf.2.1; omega); (· have := hb6.size; simp; omega); (intro v2 w2 hown2 hg2 hloc2 _; obtain ⟨A2, c2, rfl⟩ := own_slice hown2; have hO7 := (hO6.alloc (.cells #[.string x.name, .int .i64 x.T, .int .i64 x.D, .int .i64 x.mode, .int .i64 x.q, .int .i64 x.theta, (.slice A1 x.regs.length c1), .int .u64 x.ecb, .int .u64 x.ucb] 34)).grown hg2 (own_ne_blk hP6.1 hO6 (by decide)); have hc9 := hO7.cell; have hf9 := hO7.free; clear hc8 hf8 hc7)))
      have hA7 := (Ext.refl W6).alloc (.cells #[.string x.name, .int .i64 x.T, .int .i64 x.D, .int .i64 x.mode, .int .i64 x.q, .int .i64 x.theta, (.slice A1 x.regs.length c1), .int .u64 x.ecb, .int .u64 x.ucb] 34)
      have hP8 := (hP6.ext hA7).push (OwnL.alloc hrow _) hg2 hown2 HD.out
      have hP9 := hP8.set hO7 1 (.slice A2 (ps.length + 1) c2)
      rw [List.length_append, List.length_singleton] at hP9
      refine ⟨⟨k + 1, _, _, hlt, rfl, Lib.hid (by rw [List.map_append, HP.out, HS.out]; rfl), hP9, ?_, ?_, ?_, ?_⟩, by simp [intOf]; omega⟩
      · exact (((hB6.alloc _).grown hg2 (own_ne_blk hP6.1 hB6 (by decide))).far (by simp; omega) _)
      · exact (((hR6.alloc _).grown hg2 (own_ne_blk hP6.1 hR6 (by decide))).far (by simp) _)
      · have := hO7.set 1 (.slice A2 (ps.length + 1) c2)
        simpa using this
      · refine Below.setCell ?_ (by simp; omega) _
        exact Below.grown (hb6.alloc hb6.size _) hg2 (by have := hb6.size; simp; omega) (fun j hj => (OwnL.lt hP6.1 j hj).1)
    · obtain rfl : k = s.tasks.length := by omega
      have hc := hB.cell
      have hc2 := hO.cell
      have hc3 := hR.cell
      have hf3 := hR.free
      obtain ⟨Av, cv, rfl, _, _⟩ := hP.1.form
      go_wp2_with (fail)
      have hR2 := hR.set 0 (.int .i64 s.reload)
      have hR3 := hR2.set 1 (.slice Av ps.length cv)
      have hcR := hR3.cell
      refine bodyPost_ret (v := setV s (.slice Av ps.length cv)) ?_ rfl ⟨_, ps, rfl, (hP.set hR 0 _).set hR2 1 _, by rw [HP.out, List.take_length], ?_⟩
      · simp [results, Try.results9, go_sem, hcR, setV]
      · exact (hb.setCell (by simp) _).setCell (by simp) _
end Go.Proofs.Ytlaflbepidkmnaa
/- NumP -/
namespace Go.Proofs.Ytlaflbepidkmnaa
def isN (n : Int) : Bool := decide (0 ≤ n) && decide (n ≤ 1099511627776)
theorem isN_iff {n : Int} : isN n = true ↔ 0 ≤ n ∧ n ≤ 1099511627776 := by unfold isN; simp
theorem isN_eq (n : Int) : (decide (0 ≤ n) && decide (n ≤ 1099511627776)) = isN n := by unfold isN; rfl
attribute [irreducible] isN
def pairN (n : Int) (b : Bool) : Value := bif b then .tuple #[.int .i64 n, .bool true] else .tuple #[.int .i64 0, .bool false]
def ceilF (a b : Int) : Int := bif decide (a / b * b < a) then a / b + 1 else a / b
theorem isN_add {a b : Int} (ha : isN a = true) (hb : isN b = true) : -9223372036854775808 ≤ a + b ∧ a + b ≤ 9223372036854775807 := by
  rw [isN_iff] at ha hb
  omega
theorem isN_div {a b : Int} (ha : isN a = true) (hb : isN b = true) (h0 : b ≠ 0) : 0 ≤ a / b ∧ a / b ≤ a ∧ 0 ≤ a / b * b ∧ a / b * b ≤ a ∧ a < a / b * b + b := by
  rw [isN_iff] at ha hb
  have h1 := Int.ediv_nonneg ha.1 hb.1
  have h2 := Int.ediv_mul_le a h0
  have h3 : a / b ≤ a := Int.ediv_le_self b ha.1
  have h4 := Int.lt_ediv_add_one_mul_self a (b := b) (by omega)
  rw [Int.add_mul] at h4
  exact ⟨h1, h3, Int.mul_nonneg h1 hb.1, h2, by omega⟩
end Go.Proofs.Ytlaflbepidkmnaa
/- Rows of loads, their sums, the least number that is its own sum: in plain Lean. -/
namespace Go.Proofs.Ytlaflbepidkmnaa

def topB (n least : Int) : Bool := decide (least ≤ n) && decide (n ≤ 1000000)
theorem topB_eq (n least : Int) : (decide (least ≤ n) && decide (n ≤ 1000000)) = topB n least := rfl
theorem topB_iff {n least : Int} : topB n least = true ↔ least ≤ n ∧ n ≤ 1000000 := by unfold topB; simp
abbrev Ld := Int × Int
def termL (w : Int) (p : Ld) : Int := p.2 * ceilF w p.1
def sumL (base : Int) (l : List Ld) (w : Int) : Int := base + (l.map (termL w)).sum
theorem sumL_nil (base w : Int) : sumL base [] w = base := by simp [sumL]
theorem sumL_step (base : Int) (l : List Ld) (w : Int) {k : Nat} (h : k < l.length) : sumL base (l.take (k + 1)) w = sumL base (l.take k) w + termL w l[k] := by
  unfold sumL
  rw [List.take_succ_eq_append_getElem h, List.map_append, List.sum_append]
  simp
  omega
def okB (base : Int) (l : List Ld) : Bool := topB base 0 && decide (l.length ≤ 64) && l.all (fun p => topB p.1 1 && topB p.2 0)
structure OkL (base : Int) (l : List Ld) : Prop where
  base0 : 0 ≤ base
  base1 : base ≤ 1000000
  len : l.length ≤ 64
  each : ∀ p ∈ l, (1 ≤ p.1 ∧ p.1 ≤ 1000000) ∧ 0 ≤ p.2 ∧ p.2 ≤ 1000000
theorem okB_iff {base : Int} {l : List Ld} : okB base l = true ↔ OkL base l := by
  unfold okB
  simp only [Bool.and_eq_true, List.all_eq_true, topB_iff, decide_eq_true_eq]
  exact ⟨fun ⟨⟨h1, h2⟩, h3⟩ => ⟨h1.1, h1.2, h2, h3⟩, fun h => ⟨⟨⟨h.base0, h.base1⟩, h.len⟩, h.each⟩⟩
/-- rounded up: between a / b and a / b + 1 -/
theorem ceil_le {a b x : Int} (_ha : 0 ≤ a) (hb : 1 ≤ b) : ceilF a b ≤ x ↔ a ≤ x * b := by
  have h1 := Int.ediv_mul_le a (b := b) (by omega)
  have h2 := Int.lt_ediv_add_one_mul_self a (b := b) (by omega)
  unfold ceilF
  cases h : decide (a / b * b < a) with
  | true =>
    rw [decide_eq_true_eq] at h
    simp only [cond_true]
    constructor
    · intro hx
      have := Int.mul_le_mul_of_nonneg_right hx (show 0 ≤ b by omega)
      omega
    · intro hx
      apply Int.not_lt.1
      intro hlt
      have : x ≤ a / b := by omega
      have := Int.mul_le_mul_of_nonneg_right this (show 0 ≤ b by omega)
      omega
  | false =>
    rw [decide_eq_false_iff_not] at h
    simp only [cond_false]
    constructor
    · intro hx
      have := Int.mul_le_mul_of_nonneg_right hx (show 0 ≤ b by omega)
      omega
    · intro hx
      apply Int.not_lt.1
      intro hlt
      have : x + 1 ≤ a / b := by omega
      have := Int.mul_le_mul_of_nonneg_right this (show 0 ≤ b by omega)
      rw [Int.add_mul] at this
      omega
theorem ceil_mono {a a' b : Int} (ha : 0 ≤ a) (h : a ≤ a') (hb : 1 ≤ b) : ceilF a b ≤ ceilF a' b :=
  (ceil_le ha hb).2 (Int.le_trans h ((ceil_le (by omega) hb).1 (Int.le_refl _)))
theorem ceil_nonneg {a b : Int} (ha : 0 ≤ a) (hb : 1 ≤ b) : 0 ≤ ceilF a b := by
  have := Int.ediv_nonneg ha (show 0 ≤ b by omega)
  unfold ceilF
  cases decide (a / b * b < a)
  · exact this
  · show 0 ≤ a / b + 1; omega
theorem ceil_self {a b : Int} (ha : 0 ≤ a) (hb : 1 ≤ b) : ceilF a b ≤ a := by
  rw [ceil_le ha hb]
  have := Int.mul_le_mul_of_nonneg_left hb ha
  omega
/-- the document's way to round up -/
theorem ceil_doc {a b : Int} (ha : 0 ≤ a) (hb : 1 ≤ b) : (a + b - 1) / b = ceilF a b := by
  apply Int.le_antisymm
  · rw [← Int.lt_add_one_iff, Int.ediv_lt_iff_lt_mul (by omega)]
    have := (ceil_le (x := ceilF a b) ha hb).1 (Int.le_refl _)
    rw [Int.add_mul]
    omega
  · rw [ceil_le ha hb]
    have := Int.lt_ediv_add_one_mul_self (a + b - 1) (b := b) (by omega)
    rw [Int.add_mul] at this
    omega
theorem term_bound {w : Int} {p : Ld} (hw : 0 ≤ w ∧ w ≤ 1000000) (hp : (1 ≤ p.1 ∧ p.1 ≤ 1000000) ∧ 0 ≤ p.2 ∧ p.2 ≤ 1000000) : 0 ≤ termL w p ∧ termL w p ≤ 1000000000000 := by
  have h1 := ceil_nonneg hw.1 hp.1.1
  have h2 := ceil_self hw.1 hp.1.1
  unfold termL
  refine ⟨Int.mul_nonneg hp.2.1 h1, ?_⟩
  have := Int.mul_le_mul hp.2.2 (show ceilF w p.1 ≤ 1000000 by omega) h1 (by omega)
  omega
theorem sum_bound {base : Int} {l : List Ld} {w : Int} (hl : OkL base l) (hw : 0 ≤ w ∧ w ≤ 1000000) (k : Nat) : base ≤ sumL base (l.take k) w ∧ sumL base (l.take k) w ≤ base + (min k l.length : Nat) * 1000000000000 := by
  induction k with
  | zero => simp [sumL_nil]
  | succ k ih =>
    rcases Nat.lt_or_ge k l.length with h | h
    · rw [sumL_step base l w h]
      have := term_bound hw (hl.each _ (List.getElem_mem h))
      rw [Nat.min_eq_left (by omega)] at ih ⊢
      omega
    · rw [List.take_of_length_le (by omega)]
      rw [List.take_of_length_le h] at ih
      rw [Nat.min_eq_right (by omega)] at ih ⊢
      exact ih
theorem sum_mono {base : Int} {l : List Ld} {w w' : Int} (hl : ∀ p ∈ l, 1 ≤ p.1 ∧ 0 ≤ p.2) (h0 : 0 ≤ w) (h : w ≤ w') : sumL base l w ≤ sumL base l w' := by
  unfold sumL
  have : (l.map (termL w)).sum ≤ (l.map (termL w')).sum := by
    induction l with
    | nil => simp
    | cons p l ih =>
      simp only [List.map_cons, List.sum_cons]
      have h1 := ih (fun q hq => hl q (List.mem_cons_of_mem _ hq))
      have hp := hl p List.mem_cons_self
      have h2 : termL w p ≤ termL w' p := Int.mul_le_mul_of_nonneg_left (ceil_mono h0 h hp.1) hp.2
      omega
  omega
theorem sum_base (base : Int) (l : List Ld) (w : Int) : sumL base l w = base + sumL 0 l w := by unfold sumL; omega

/-- on from w: the first number that is its own sum -/
def leastW (base : Int) (l : List Ld) (w : Int) : Option Int :=
  if sumL base l w = w then some w
  else if _h : sumL base l w < w ∨ 1000000 < sumL base l w then none
  else leastW base l (sumL base l w)
termination_by (1000001 - w).toNat
decreasing_by omega
def least (base : Int) (l : List Ld) : Option Int := if okB base l then leastW base l 1 else none
/-- the sum, where it is told -/
def sumT (base : Int) (l : List Ld) (w : Int) : Int := bif topB w 0 then sumL base l w else 0
theorem sumT_in {base : Int} {l : List Ld} {w : Int} (h : 0 ≤ w ∧ w ≤ 1000000) : sumT base l w = sumL base l w := by
  unfold sumT
  rw [show topB w 0 = true from topB_iff.2 h]
  rfl
theorem sumT_up {base : Int} {l : List Ld} {w : Int} (h : ¬ sumT base l w ≤ w) : (1000001 - sumT base l w).toNat < (1000001 - w).toNat := by
  unfold sumT at *
  cases ht : topB w 0 with
  | true =>
    have := topB_iff.1 ht
    rw [ht] at h
    simp only [cond_true] at h ⊢
    omega
  | false =>
    rw [ht] at h
    simp only [cond_false] at h ⊢
    omega
/-- on from w: the first number that its sum does not pass -/
def doneW (base : Int) (l : List Ld) (w : Int) : Int :=
  if _h : sumT base l w ≤ w then w else doneW base l (sumT base l w)
termination_by (1000001 - w).toNat
decreasing_by exact sumT_up _h
def optN : Option Int → Value
  | some n => .tuple #[.int .i64 n, .bool true]
  | none => .tuple #[.int .i64 0, .bool false]
theorem leastW_here {base : Int} {l : List Ld} {w : Int} (h : sumL base l w = w) : leastW base l w = some w := by unfold leastW; rw [if_pos h]
theorem leastW_none {base : Int} {l : List Ld} {w : Int} (h : sumL base l w ≠ w) (h2 : sumL base l w < w ∨ 1000000 < sumL base l w) : leastW base l w = none := by unfold leastW; rw [if_neg h, dif_pos h2]
theorem leastW_next {base : Int} {l : List Ld} {w : Int} (h : sumL base l w ≠ w) (h2 : ¬ (sumL base l w < w ∨ 1000000 < sumL base l w)) : leastW base l w = leastW base l (sumL base l w) := by
  conv => lhs; unfold leastW
  rw [if_neg h, dif_neg h2]
theorem doneW_here {base : Int} {l : List Ld} {w : Int} (h : sumT base l w ≤ w) : doneW base l w = w := by unfold doneW; rw [dif_pos h]
theorem doneW_next {base : Int} {l : List Ld} {w : Int} (h : ¬ sumT base l w ≤ w) : doneW base l w = doneW base l (sumT base l w) := by
  conv => lhs; unfold doneW
  rw [dif_neg h]
/-- the least number that is its own sum: it is no more than any that its sum does not pass -/
theorem leastW_spec {base : Int} {l : List Ld} (hl : ∀ p ∈ l, 1 ≤ p.1 ∧ 0 ≤ p.2) : ∀ (n : Nat) (w : Int), (1000001 - w).toNat = n → 0 ≤ w → w ≤ 1000000 → w ≤ sumL base l w →
    (∀ f, leastW base l w = some f → sumL base l f = f ∧ w ≤ f ∧ f ≤ 1000000) ∧ ∀ x, w ≤ x → x ≤ 1000000 → sumL base l x ≤ x → ∃ f, leastW base l w = some f ∧ f ≤ x := by
  intro n
  induction n using Nat.strongRecOn with
  | ind n ih =>
    intro w hn h0 h1 hup
    by_cases he : sumL base l w = w
    · rw [leastW_here he]
      exact ⟨fun f hf => by cases hf; exact ⟨he, Int.le_refl _, h1⟩, fun x hx _ _ => ⟨w, rfl, hx⟩⟩
    · by_cases h2 : sumL base l w < w ∨ 1000000 < sumL base l w
      · rw [leastW_none he h2]
        refine ⟨fun f hf => (by cases hf), fun x hx hx1 hxx => ?_⟩
        have := sum_mono (base := base) hl h0 hx
        omega
      · rw [leastW_next he h2]
        have h3 : w < sumL base l w := by omega
        have h4 := ih (1000001 - sumL base l w).toNat (by omega) (sumL base l w) rfl (by omega) (by omega) (sum_mono hl h0 (by omega))
        refine ⟨fun f hf => ?_, fun x hx hx1 hxx => ?_⟩
        · obtain ⟨h5, h6, h7⟩ := h4.1 f hf
          exact ⟨h5, by omega, h7⟩
        · have := sum_mono (base := base) hl h0 hx
          exact h4.2 x (by omega) hx1 hxx
/-- from any number on that is no more than the least one, and that its sum does not fall below, one comes to the least one -/
theorem doneW_spec {base : Int} {l : List Ld} (hl : ∀ p ∈ l, 1 ≤ p.1 ∧ 0 ≤ p.2) {f : Int} (hf : sumL base l f = f) (hf1 : f ≤ 1000000) (hmin : ∀ x, 0 ≤ x → sumL base l x ≤ x → f ≤ x) :
    ∀ (n : Nat) (w : Int), (1000001 - w).toNat = n → 0 ≤ w → w ≤ f → doneW base l w = f := by
  intro n
  induction n using Nat.strongRecOn with
  | ind n ih =>
    intro w hn h0 hw
    have hs := sumT_in (base := base) (l := l) (w := w) ⟨h0, by omega⟩
    by_cases he : sumT base l w ≤ w
    · rw [doneW_here he]
      rw [hs] at he
      have := hmin w h0 he
      omega
    · rw [doneW_next he]
      have hup := sumT_up he
      rw [hs] at he hup ⊢
      have := sum_mono (base := base) hl h0 hw
      exact ih _ (by omega) _ rfl (by omega) (by omega)
end Go.Proofs.Ytlaflbepidkmnaa
/- How long a job takes at most: in plain Lean. -/
namespace Go.Proofs.Ytlaflbepidkmnaa

theorem sum_append (base : Int) (l : List Ld) (p : Ld) (x : Int) : sumL base (l ++ [p]) x = sumL base l x + termL x p := by
  unfold sumL
  rw [List.map_append, List.sum_append]
  simp
  omega
/-- the least number, or 0 -/
def leastZ (base : Int) (l : List Ld) : Int := (least base l).getD 0
/-- the greatest bound of the first jobs -/
def respL (T w b : Int) (l : List Ld) : Nat → Int
  | 0 => 0
  | q + 1 => max (respL T w b l q) (leastZ (b + (q + 1) * w) l - q * T)
/-- how many jobs there are within a time -/
def jobsN (T long : Int) : Nat := (ceilF long T).toNat
theorem jobs_iff {T long : Int} (hT : 1 ≤ T) (hl : 0 ≤ long) (q : Nat) : q < jobsN T long ↔ (q : Int) * T < long := by
  unfold jobsN
  have h := ceil_le (a := long) (b := T) (x := q) hl hT
  have h0 := ceil_nonneg hl hT
  constructor
  · intro hq
    apply Int.not_le.1
    intro hc
    have := h.2 hc
    omega
  · intro hq
    have := fun hc => Int.not_le.2 hq (h.1 hc)
    omega
def withL (T w D b : Int) (l : List Ld) : Int × Int :=
  match least b (l ++ [(T, w)]) with
  | none => (0, 3)
  | some long => (respL T w b l (jobsN T long), if respL T w b l (jobsN T long) ≤ D then 1 else 2)

/-- loads as they may be -/
structure LdsOk (l : List Ld) : Prop where
  len : l.length ≤ 60
  each : ∀ p ∈ l, (1 ≤ p.1 ∧ p.1 ≤ 1000000) ∧ 0 ≤ p.2 ∧ p.2 ≤ 1000000
theorem LdsOk.two {l : List Ld} (h : LdsOk l) : ∀ p ∈ l, 1 ≤ p.1 ∧ 0 ≤ p.2 := fun p hp => ⟨(h.each p hp).1.1, (h.each p hp).2.1⟩
theorem LdsOk.ok {l : List Ld} (h : LdsOk l) {b : Int} (h0 : 0 ≤ b) (h1 : b ≤ 1000000) : OkL b l := ⟨h0, h1, by have := h.len; omega, h.each⟩
theorem LdsOk.with {l : List Ld} (h : LdsOk l) {b T w : Int} (h0 : 0 ≤ b) (h1 : b ≤ 1000000) (hT : 1 ≤ T ∧ T ≤ 1000000) (hw : 0 ≤ w ∧ w ≤ 1000000) : OkL b (l ++ [(T, w)]) := by
  refine ⟨h0, h1, by have := h.len; simp; omega, fun p hp => ?_⟩
  rcases List.mem_append.1 hp with hp | hp
  · exact h.each p hp
  · rw [List.mem_singleton] at hp
    subst hp
    exact ⟨hT, hw⟩
theorem sum_nonneg {l : List Ld} (hl : ∀ p ∈ l, 1 ≤ p.1 ∧ 0 ≤ p.2) {base x : Int} (hx : 0 ≤ x) : base ≤ sumL base l x := by
  unfold sumL
  have : 0 ≤ (l.map (termL x)).sum := by
    induction l with
    | nil => simp
    | cons p l ih =>
      simp only [List.map_cons, List.sum_cons]
      have h1 := ih (fun q hq => hl q (List.mem_cons_of_mem _ hq))
      have hp := hl p List.mem_cons_self
      have h2 : 0 ≤ termL x p := Int.mul_nonneg hp.2 (ceil_nonneg hx hp.1)
      omega
  omega
/-- what the least number is -/
theorem least_spec {base : Int} {l : List Ld} (hok : OkL base l) (h1 : 1 ≤ sumL base l 1) :
    (∀ f, least base l = some f → sumL base l f = f ∧ 1 ≤ f ∧ f ≤ 1000000) ∧ ∀ x, 1 ≤ x → x ≤ 1000000 → sumL base l x ≤ x → ∃ f, least base l = some f ∧ f ≤ x := by
  have h := leastW_spec (base := base) (l := l) (fun p hp => ⟨(hok.each p hp).1.1, (hok.each p hp).2.1⟩) _ 1 rfl (by omega) (by omega) h1
  unfold least
  rw [if_pos (okB_iff.2 hok)]
  exact h
theorem least_ok {base : Int} {l : List Ld} {f : Int} (h : least base l = some f) : OkL base l := by
  unfold least at h
  split at h
  · rename_i hb; exact okB_iff.1 hb
  · cases h
/-- with a base of 1 or more: the least one does not pass any that its sum does not pass -/
theorem leastZ_spec {base : Int} {l : List Ld} (hl : LdsOk l) (h1 : 1 ≤ base) {x : Int} (hx : 1 ≤ x) (hx1 : x ≤ 1000000) (hs : sumL base l x ≤ x) :
    least base l = some (leastZ base l) ∧ sumL base l (leastZ base l) = leastZ base l ∧ base ≤ leastZ base l ∧ leastZ base l ≤ x ∧ ∀ y, 0 ≤ y → sumL base l y ≤ y → leastZ base l ≤ y := by
  have hb := sum_nonneg hl.two (base := base) (x := x) (by omega)
  have hok := hl.ok (b := base) (by omega) (by omega)
  have hsp := least_spec hok (Int.le_trans h1 (sum_nonneg hl.two (by omega)))
  obtain ⟨f, hf, hfx⟩ := hsp.2 x hx hx1 hs
  have hz : leastZ base l = f := by unfold leastZ; rw [hf]; rfl
  rw [hz]
  obtain ⟨h3, h4, h5⟩ := hsp.1 f hf
  have h6 := sum_nonneg hl.two (base := base) (x := f) (by omega)
  refine ⟨hf, h3, by omega, hfx, fun y hy hyy => ?_⟩
  by_cases hy0 : y = 0
  · have := sum_nonneg hl.two (base := base) (x := y) (by omega)
    omega
  · by_cases hy1 : y ≤ 1000000
    · obtain ⟨g, hg, hgy⟩ := hsp.2 y (by omega) hy1 hyy
      rw [hf] at hg
      cases hg
      exact hgy
    · omega
/-- within a busy time the first jobs are done -/
theorem busy_job {T w b long : Int} {l : List Ld} (hl : LdsOk l) (hT : 1 ≤ T ∧ T ≤ 1000000) (hw : 1 ≤ w ∧ w ≤ 1000000) (h : least b (l ++ [(T, w)]) = some long) :
    0 ≤ b ∧ b ≤ 1000000 ∧ 1 ≤ long ∧ long ≤ 1000000 ∧ ∀ q : Nat, (q : Int) * T < long → sumL (b + (q + 1) * w) l long ≤ long := by
  have hok := least_ok h
  have h1 : 1 ≤ sumL b (l ++ [(T, w)]) 1 := by
    rw [sum_append]
    have h2 := sum_nonneg hl.two (base := b) (x := 1) (by omega)
    have h3 : 1 ≤ ceilF 1 T := by
      have := (ceil_le (a := 1) (b := T) (x := 0) (by omega) hT.1)
      omega
    have h4 : w * 1 ≤ w * ceilF 1 T := Int.mul_le_mul_of_nonneg_left h3 (by omega)
    have h5 := hok.base0
    show 1 ≤ sumL b l 1 + w * ceilF 1 T
    omega
  obtain ⟨h2, h3, h4⟩ := (least_spec hok h1).1 long h
  refine ⟨hok.base0, hok.base1, h3, h4, fun q hq => ?_⟩
  rw [sum_append] at h2
  have h5 : (q : Int) + 1 ≤ ceilF long T := by
    have := (ceil_le (a := long) (b := T) (x := q) (by omega) hT.1)
    omega
  have h6 : w * (q + 1) ≤ w * ceilF long T := Int.mul_le_mul_of_nonneg_left h5 (by omega)
  rw [sum_base] at h2 ⊢
  rw [Int.mul_comm w] at h6
  have h7 : termL long (T, w) = w * ceilF long T := rfl
  omega
/-- each of these jobs' least number -/
theorem job_least {T w b long : Int} {l : List Ld} (hl : LdsOk l) (hT : 1 ≤ T ∧ T ≤ 1000000) (hw : 1 ≤ w ∧ w ≤ 1000000) (h : least b (l ++ [(T, w)]) = some long) (q : Nat) (hq : (q : Int) * T < long) :
    least (b + (q + 1) * w) l = some (leastZ (b + (q + 1) * w) l) ∧ sumL (b + (q + 1) * w) l (leastZ (b + (q + 1) * w) l) = leastZ (b + (q + 1) * w) l ∧ b + (q + 1) * w ≤ leastZ (b + (q + 1) * w) l ∧ leastZ (b + (q + 1) * w) l ≤ long ∧ 1 ≤ b + (q + 1) * w ∧
    ∀ y, 0 ≤ y → sumL (b + (q + 1) * w) l y ≤ y → leastZ (b + (q + 1) * w) l ≤ y := by
  obtain ⟨h1, h2, h3, h4, h5⟩ := busy_job hl hT hw h
  have h6 : 1 * w ≤ ((q : Int) + 1) * w := Int.mul_le_mul_of_nonneg_right (by omega) (by omega)
  have h7 : 1 ≤ b + (q + 1) * w := by omega
  obtain ⟨a, b, c, d, e⟩ := leastZ_spec hl h7 h3 h4 (h5 q hq)
  exact ⟨a, b, c, d, h7, e⟩
/-- where the program looks for it from: 1, then the one before -/
def fromF (w b : Int) (l : List Ld) : Nat → Int
  | 0 => 1
  | q + 1 => leastZ (b + (q + 1) * w) l
theorem done_job {T w b long : Int} {l : List Ld} (hl : LdsOk l) (hT : 1 ≤ T ∧ T ≤ 1000000) (hw : 1 ≤ w ∧ w ≤ 1000000) (h : least b (l ++ [(T, w)]) = some long) (q : Nat) (hq : (q : Int) * T < long) :
    doneW (b + (q + 1) * w) l (fromF w b l q) = leastZ (b + (q + 1) * w) l := by
  obtain ⟨_, _, h3, h4, _⟩ := busy_job hl hT hw h
  obtain ⟨a1, a2, a3, a4, a5, a6⟩ := job_least hl hT hw h q hq
  have hf : 0 ≤ fromF w b l q ∧ fromF w b l q ≤ leastZ (b + (q + 1) * w) l := by
    cases q with
    | zero => exact ⟨by show (0 : Int) ≤ 1; omega, by show (1 : Int) ≤ _; omega⟩
    | succ p =>
      have hp : (p : Int) * T < long := by
        have : ((p + 1 : Nat) : Int) * T = p * T + T := by rw [Int.natCast_add, Int.add_mul]; omega
        omega
      obtain ⟨b1, b2, b3, b4, b5, b6⟩ := job_least hl hT hw h p hp
      refine ⟨by show 0 ≤ leastZ (b + (p + 1) * w) l; omega, b6 _ (by omega) ?_⟩
      rw [sum_base] at a2 ⊢
      have : ((p : Int) + 1) * w ≤ ((p + 1 : Nat) + 1) * w := Int.mul_le_mul_of_nonneg_right (by omega) (by omega)
      omega
  exact doneW_spec hl.two a2 (by omega) a6 _ _ rfl hf.1 hf.2
theorem resp_range {T w b long : Int} {l : List Ld} (hl : LdsOk l) (hT : 1 ≤ T ∧ T ≤ 1000000) (hw : 1 ≤ w ∧ w ≤ 1000000) (h : least b (l ++ [(T, w)]) = some long) (q : Nat) (hq : q ≤ jobsN T long) :
    0 ≤ respL T w b l q ∧ respL T w b l q ≤ 1000000 := by
  obtain ⟨_, _, h3, h4, _⟩ := busy_job hl hT hw h
  induction q with
  | zero => exact ⟨Int.le_refl _, by show (0 : Int) ≤ _; omega⟩
  | succ q ih =>
    have hq1 := (jobs_iff hT.1 (show 0 ≤ long by omega) q).1 hq
    obtain ⟨a1, a2, a3, a4, a5, a6⟩ := job_least hl hT hw h q hq1
    have := ih (by omega)
    have h0 : 0 ≤ (q : Int) * T := Int.mul_nonneg (by omega) (by omega)
    show 0 ≤ max (respL T w b l q) (leastZ (b + (q + 1) * w) l - q * T) ∧ max (respL T w b l q) (leastZ (b + (q + 1) * w) l - q * T) ≤ 1000000
    omega
/-- numbers of a job: none is too great -/
theorem job_range {T w b long : Int} {l : List Ld} (hl : LdsOk l) (hT : 1 ≤ T ∧ T ≤ 1000000) (hw : 1 ≤ w ∧ w ≤ 1000000) (h : least b (l ++ [(T, w)]) = some long) (q : Nat) (hq : (q : Int) * T < long) :
    q < 1000000 ∧ 0 ≤ (q : Int) * T ∧ (q : Int) * T < 1000000 ∧ 1 ≤ ((q : Int) + 1) * w ∧ ((q : Int) + 1) * w ≤ 1000000 ∧ b + ((q : Int) + 1) * w ≤ 1000000 := by
  obtain ⟨h1, _, h3, h4, _⟩ := busy_job hl hT hw h
  obtain ⟨a1, a2, a3, a4, a5, a6⟩ := job_least hl hT hw h q hq
  have h0 : (q : Int) * 1 ≤ (q : Int) * T := Int.mul_le_mul_of_nonneg_left hT.1 (by omega)
  have h6 : 1 * w ≤ ((q : Int) + 1) * w := Int.mul_le_mul_of_nonneg_right (by omega) (by omega)
  omega

theorem resp_le {T w b : Int} {l : List Ld} {D : Int} (hD : 0 ≤ D) (n : Nat) : respL T w b l n ≤ D ↔ ∀ q < n, leastZ (b + (q + 1) * w) l - q * T ≤ D := by
  induction n with
  | zero => exact ⟨fun _ q hq => by omega, fun _ => hD⟩
  | succ n ih =>
    show max (respL T w b l n) (leastZ (b + (n + 1) * w) l - n * T) ≤ D ↔ _
    constructor
    · intro h q hq
      by_cases hqn : q = n
      · subst hqn; omega
      · exact ih.1 (by omega) q (by omega)
    · intro h
      have h1 := ih.2 (fun q hq => h q (by omega))
      have h2 := h n (by omega)
      omega
/-- accepted -/
def accP (T w D b : Int) (l : List Ld) : Prop := ∃ long, least b (l ++ [(T, w)]) = some long ∧ ∀ q : Nat, (q : Int) * T < long → leastZ (b + (q + 1) * w) l - q * T ≤ D
theorem acc_iff {T w D b : Int} {l : List Ld} (hl : LdsOk l) (hT : 1 ≤ T ∧ T ≤ 1000000) (hw : 1 ≤ w ∧ w ≤ 1000000) (hD : 0 ≤ D) : (withL T w D b l).2 = 1 ↔ accP T w D b l := by
  unfold withL accP
  cases h : least b (l ++ [(T, w)]) with
  | none => simp
  | some long =>
    obtain ⟨_, _, h3, h4, _⟩ := busy_job hl hT hw h
    simp only [Option.some.injEq, exists_eq_left']
    rw [show (if respL T w b l (jobsN T long) ≤ D then (1 : Int) else 2) = 1 ↔ respL T w b l (jobsN T long) ≤ D by split <;> simp_all]
    rw [resp_le hD]
    constructor
    · intro h5 q hq
      exact h5 q ((jobs_iff hT.1 (by omega) q).2 hq)
    · intro h5 q hq
      exact h5 q ((jobs_iff hT.1 (by omega) q).1 hq)
/-- loads that are no more, task by task -/
inductive LdLe : List Ld → List Ld → Prop
  | nil : LdLe [] []
  | cons {p p' : Ld} {l l' : List Ld} : p'.1 = p.1 → 0 ≤ p'.2 → p'.2 ≤ p.2 → LdLe l' l → LdLe (p' :: l') (p :: l)
theorem LdLe.refl {l : List Ld} (h : ∀ p ∈ l, 0 ≤ p.2) : LdLe l l := by
  induction l with
  | nil => exact .nil
  | cons p l ih => exact .cons rfl (h p List.mem_cons_self) (Int.le_refl _) (ih fun q hq => h q (List.mem_cons_of_mem _ hq))
theorem LdLe.snoc {l l' : List Ld} (h : LdLe l' l) {p p' : Ld} (h1 : p'.1 = p.1) (h2 : 0 ≤ p'.2) (h3 : p'.2 ≤ p.2) : LdLe (l' ++ [p']) (l ++ [p]) := by
  induction h with
  | nil => exact .cons h1 h2 h3 .nil
  | cons a b c _ ih => exact .cons a b c ih
theorem LdLe.len {l l' : List Ld} (h : LdLe l' l) : l'.length = l.length := by
  induction h with
  | nil => rfl
  | cons _ _ _ _ ih => simp [ih]
theorem LdLe.each {l l' : List Ld} (h : LdLe l' l) (hl : ∀ p ∈ l, (1 ≤ p.1 ∧ p.1 ≤ 1000000) ∧ 0 ≤ p.2 ∧ p.2 ≤ 1000000) : ∀ p ∈ l', (1 ≤ p.1 ∧ p.1 ≤ 1000000) ∧ 0 ≤ p.2 ∧ p.2 ≤ 1000000 := by
  induction h with
  | nil => exact hl
  | @cons p p' l l' a b c _ ih =>
    intro q hq
    rcases List.mem_cons.1 hq with rfl | hq
    · have := hl p List.mem_cons_self
      exact ⟨by rw [a]; exact this.1, b, by omega⟩
    · exact ih (fun q hq => hl q (List.mem_cons_of_mem _ hq)) q hq
theorem LdLe.ok {l l' : List Ld} (h : LdLe l' l) (hl : LdsOk l) : LdsOk l' := ⟨by rw [h.len]; exact hl.len, h.each hl.each⟩
theorem LdLe.sum {l l' : List Ld} (h : LdLe l' l) (hl : ∀ p ∈ l, 1 ≤ p.1 ∧ 0 ≤ p.2) {b b' : Int} (hb : b' ≤ b) {x : Int} (hx : 0 ≤ x) : sumL b' l' x ≤ sumL b l x := by
  have : (l'.map (termL x)).sum ≤ (l.map (termL x)).sum := by
    induction h with
    | nil => simp
    | @cons p p' l l' a _ c _ ih =>
      have h1 := ih (fun q hq => hl q (List.mem_cons_of_mem _ hq))
      have hp := hl p List.mem_cons_self
      have h2 : termL x p' ≤ termL x p := by
        unfold termL
        rw [a]
        exact Int.mul_le_mul_of_nonneg_right c (ceil_nonneg hx hp.1)
      simp only [List.map_cons, List.sum_cons]
      omega
  unfold sumL
  omega
theorem own_one {T w b : Int} {l : List Ld} (hl : LdsOk l) (hT : 1 ≤ T ∧ T ≤ 1000000) (hw : 1 ≤ w ∧ w ≤ 1000000) (hb : 0 ≤ b) : 1 ≤ sumL b (l ++ [(T, w)]) 1 := by
  rw [sum_append]
  have h2 := sum_nonneg hl.two (base := b) (x := 1) (by omega)
  have h3 : 1 ≤ ceilF 1 T := by
    have := (ceil_le (a := 1) (b := T) (x := 0) (by omega) hT.1)
    omega
  have h4 : w * 1 ≤ w * ceilF 1 T := Int.mul_le_mul_of_nonneg_left h3 (by omega)
  show 1 ≤ sumL b l 1 + w * ceilF 1 T
  omega
/-- with less of all it is accepted still -/
theorem acc_mono {T w w' D b b' : Int} {l l' : List Ld} (hl : LdsOk l) (hle : LdLe l' l) (hT : 1 ≤ T ∧ T ≤ 1000000) (hw : w ≤ 1000000) (hw' : 1 ≤ w' ∧ w' ≤ w) (hb : 0 ≤ b' ∧ b' ≤ b) (h : accP T w D b l) : accP T w' D b' l' := by
  obtain ⟨long, h1, h2⟩ := h
  have hW : 1 ≤ w ∧ w ≤ 1000000 := by omega
  obtain ⟨g1, g2, g3, g4, g5⟩ := busy_job hl hT hW h1
  have hl' := hle.ok hl
  have hok' := hl'.with (b := b') (T := T) (w := w') hb.1 (by omega) hT (by omega)
  have hone := own_one hl' hT (show 1 ≤ w' ∧ w' ≤ 1000000 by omega) hb.1
  have hlong := ((least_spec (hl.with g1 g2 hT (by omega)) (own_one hl hT hW g1)).1 long h1).1
  have hle2 : LdLe (l' ++ [(T, w')]) (l ++ [(T, w)]) := hle.snoc rfl (by show 0 ≤ w'; omega) hw'.2
  have htwo : ∀ p ∈ l ++ [(T, w)], 1 ≤ p.1 ∧ 0 ≤ p.2 := fun p hp => by
    have := (hl.with g1 g2 hT (by omega)).each p hp
    exact ⟨this.1.1, this.2.1⟩
  have hs := hle2.sum htwo hb.2 (x := long) (by omega)
  obtain ⟨long', k1, k2⟩ := (least_spec hok' hone).2 long g3 g4 (by omega)
  refine ⟨long', k1, fun q hq => ?_⟩
  have hq1 : (q : Int) * T < long := by omega
  obtain ⟨a1, a2, a3, a4, a5, a6⟩ := job_least hl hT hW h1 q hq1
  obtain ⟨b1, b2, b3, b4, b5, b6⟩ := job_least hl' hT (show 1 ≤ w' ∧ w' ≤ 1000000 by omega) k1 q hq
  have hm : ((q : Int) + 1) * w' ≤ ((q : Int) + 1) * w := Int.mul_le_mul_of_nonneg_left hw'.2 (by omega)
  have := hle.sum hl.two (b := b + (q + 1) * w) (b' := b' + (q + 1) * w') (by omega) (x := leastZ (b + (q + 1) * w) l) (by omega)
  have := b6 (leastZ (b + (q + 1) * w) l) (by omega) (by omega)
  have := h2 q hq1
  omega
/-- the bound is no less than the work, and the blocking -/
theorem resp_work {T w b long : Int} {l : List Ld} (hl : LdsOk l) (hT : 1 ≤ T ∧ T ≤ 1000000) (hw : 1 ≤ w ∧ w ≤ 1000000) (h : least b (l ++ [(T, w)]) = some long) : b + w ≤ respL T w b l (jobsN T long) := by
  obtain ⟨g1, g2, g3, g4, g5⟩ := busy_job hl hT hw h
  have h0 : ((0 : Nat) : Int) * T < long := by simp; omega
  have h1 := (jobs_iff hT.1 (by omega) 0).2 h0
  obtain ⟨a1, a2, a3, a4, a5, a6⟩ := job_least hl hT hw h 0 h0
  have := (resp_le (T := T) (w := w) (b := b) (l := l) (resp_range hl hT hw h _ (Nat.le_refl _)).1 (jobsN T long)).1 (Int.le_refl _) 0 h1
  simp at this a3
  omega
/-- a task alone -/
theorem with_alone {T w D : Int} (hT : 1 ≤ T ∧ T ≤ 1000000) (hw : 1 ≤ w ∧ w ≤ 1000000) (hwD : w ≤ D) (hDT : D ≤ T) : withL T w D 0 [] = (w, 1) := by
  have hl : LdsOk [] := ⟨by simp, fun p hp => by simp at hp⟩
  have hok := hl.with (b := 0) (T := T) (w := w) (by omega) (by omega) hT (by omega)
  have hc : ceilF w T = 1 := by
    have h1 := (ceil_le (a := w) (b := T) (x := 1) (by omega) hT.1)
    have h2 := (ceil_le (a := w) (b := T) (x := 0) (by omega) hT.1)
    omega
  have hsp := least_spec hok (own_one hl hT hw (by omega))
  obtain ⟨f, hf, hfw⟩ := hsp.2 w hw.1 hw.2 (by rw [List.nil_append]; unfold sumL termL; simp [hc])
  obtain ⟨g1, g2, g3⟩ := hsp.1 f hf
  have hfe : f = w := by
    have hc1 : ceilF f T = 1 := by
      have h1 := (ceil_le (a := f) (b := T) (x := 1) (by omega) hT.1)
      have h2 := (ceil_le (a := f) (b := T) (x := 0) (by omega) hT.1)
      omega
    rw [List.nil_append] at g1
    unfold sumL termL at g1
    simp [hc1] at g1
    omega
  subst hfe
  have hj : jobsN T f = 1 := by unfold jobsN; rw [hc]; rfl
  obtain ⟨a1, a2, a3, a4, a5, a6⟩ := job_least hl hT hw hf 0 (by simp; omega)
  have hz : leastZ (0 + (0 + 1) * f) [] = f := by
    rw [sumL_nil] at a2
    have e : (0 : Int) + (((0 : Nat) : Int) + 1) * f = 0 + (0 + 1) * f := by simp
    rw [e] at a2
    rw [← a2]
    omega
  have hr : respL T f 0 [] 1 = f := by
    show max 0 (leastZ (0 + (((0 : Nat) : Int) + 1) * f) [] - ((0 : Nat) : Int) * T) = f
    simp only [Int.natCast_zero, Int.zero_mul]
    rw [hz]
    omega
  unfold withL
  rw [hf]
  simp only [hj, hr]
  rw [if_pos hwD]
end Go.Proofs.Ytlaflbepidkmnaa
/- How many bits are set: the way of the library, in plain Lean. -/
namespace Go.Proofs.Ytlaflbepidkmnaa

/-- how many of the first n bits are set -/
def popN (n x : Nat) : Nat := (List.range n).countP x.testBit
theorem popN_byte (n x : Nat) : popN (8 + n) x = popN 8 (x % 256) + popN n (x / 256) := by
  unfold popN
  rw [List.range_add, List.countP_append, List.countP_map]
  congr 1
  · refine List.countP_congr fun j hj => ?_
    have : j < 8 := List.mem_range.1 hj
    rw [show (256 : Nat) = 2 ^ 8 from rfl, Nat.testBit_mod_two_pow]
    simp [this]
  · refine List.countP_congr fun j _ => ?_
    show x.testBit (8 + j) = true ↔ _
    rw [← Nat.testBit_shiftRight, Nat.shiftRight_eq_div_pow]
theorem pop8_le : ∀ b : Fin 256, popN 8 b.val ≤ 8 := by decide +kernel

theorem and_digit {q r m c : Nat} (hr : r < 256) (hc : c < 256) : (256 * q + r) &&& (256 * m + c) = 256 * (q &&& m) + (r &&& c) := by
  have h : r &&& c < 2 ^ 8 := Nat.lt_of_le_of_lt Nat.and_le_left hr
  apply Nat.eq_of_testBit_eq
  intro j
  rw [Nat.testBit_and, show (256 : Nat) = 2 ^ 8 from rfl, Nat.testBit_two_pow_mul_add _ hr, Nat.testBit_two_pow_mul_add _ hc, Nat.testBit_two_pow_mul_add _ h]
  split <;> simp [Nat.testBit_and]
def rep (c : Nat) : Nat → Nat
  | 0 => 0
  | k + 1 => 256 * rep c k + c
def mapD (f : Nat → Nat) : Nat → Nat → Nat
  | 0, _ => 0
  | k + 1, x => 256 * mapD f k (x / 256) + f (x % 256)
theorem mapD_congr {f g : Nat → Nat} (h : ∀ b, b < 256 → f b = g b) : ∀ k x, mapD f k x = mapD g k x
  | 0, _ => rfl
  | k + 1, x => by
    unfold mapD
    rw [mapD_congr h k, h _ (Nat.mod_lt _ (by omega))]
theorem mapD_comp {f g : Nat → Nat} (hf : ∀ b, b < 256 → f b < 256) : ∀ k x, mapD g k (mapD f k x) = mapD (fun b => g (f b)) k x
  | 0, _ => rfl
  | k + 1, x => by
    have hb := hf (x % 256) (Nat.mod_lt _ (by omega))
    show 256 * mapD g k (mapD f (k + 1) x / 256) + g (mapD f (k + 1) x % 256) = _
    rw [show mapD f (k + 1) x = 256 * mapD f k (x / 256) + f (x % 256) from rfl, show (256 * mapD f k (x / 256) + f (x % 256)) / 256 = mapD f k (x / 256) by omega,
      show (256 * mapD f k (x / 256) + f (x % 256)) % 256 = f (x % 256) by omega, mapD_comp hf k]
    rfl
def t1 (b : Nat) : Nat := (b / 2 &&& 85) + (b &&& 85)
def t2 (b : Nat) : Nat := (b / 4 &&& 51) + (b &&& 51)
def t3 (b : Nat) : Nat := (b / 16 + b) &&& 15
theorem t1_dec : ∀ e : Fin 2, ∀ r : Fin 256, (e.val * 128 + r.val / 2) &&& 85 = (r.val / 2 &&& 85) := by decide +kernel
theorem t2_dec : ∀ e : Fin 4, ∀ r : Fin 256, (e.val * 64 + r.val / 4) &&& 51 = (r.val / 4 &&& 51) := by decide +kernel
theorem t3_dec : ∀ e : Fin 5, ∀ r : Fin 69, (e.val * 16 + r.val / 16 + r.val) &&& 15 = ((r.val / 16 + r.val) &&& 15) ∧ e.val * 16 + r.val / 16 + r.val < 256 := by decide +kernel
theorem t_pop : ∀ b : Fin 256, t3 (t2 (t1 b.val)) = popN 8 b.val ∧ t2 (t1 b.val) < 69 ∧ t2 (t1 b.val) % 16 < 5 ∧ t1 b.val < 256 := by decide +kernel
theorem st1 : ∀ k x, x < 256 ^ k → (x / 2 &&& rep 85 k) + (x &&& rep 85 k) = mapD t1 k x
  | 0, x, h => by simp [rep, mapD]
  | k + 1, x, h => by
    have hr : x % 256 < 256 := Nat.mod_lt _ (by omega)
    have hq : x / 256 < 256 ^ k := by rw [Nat.div_lt_iff_lt_mul (by omega)]; rw [Nat.pow_succ] at h; exact h
    have ih := st1 k (x / 256) hq
    show (x / 2 &&& (256 * rep 85 k + 85)) + (x &&& (256 * rep 85 k + 85)) = 256 * mapD t1 k (x / 256) + t1 (x % 256)
    rw [← ih]
    have e1 : x / 2 = 256 * (x / 256 / 2) + (x / 256 % 2 * 128 + x % 256 / 2) := by omega
    have e2 : x = 256 * (x / 256) + x % 256 := by omega
    have d := t1_dec ⟨x / 256 % 2, Nat.mod_lt _ (by omega)⟩ ⟨x % 256, hr⟩
    dsimp only at d
    have f1 : x / 2 &&& (256 * rep 85 k + 85) = 256 * (x / 256 / 2 &&& rep 85 k) + (x % 256 / 2 &&& 85) := by
      conv => lhs; rw [e1]
      rw [and_digit (by omega) (by omega), d]
    have f2 : x &&& (256 * rep 85 k + 85) = 256 * (x / 256 &&& rep 85 k) + (x % 256 &&& 85) := by
      conv => lhs; rw [e2]
      rw [and_digit (by omega) (by omega)]
    rw [f1, f2]
    unfold t1
    omega
theorem st2 : ∀ k x, x < 256 ^ k → (x / 4 &&& rep 51 k) + (x &&& rep 51 k) = mapD t2 k x
  | 0, x, h => by simp [rep, mapD]
  | k + 1, x, h => by
    have hr : x % 256 < 256 := Nat.mod_lt _ (by omega)
    have hq : x / 256 < 256 ^ k := by rw [Nat.div_lt_iff_lt_mul (by omega)]; rw [Nat.pow_succ] at h; exact h
    have ih := st2 k (x / 256) hq
    show (x / 4 &&& (256 * rep 51 k + 51)) + (x &&& (256 * rep 51 k + 51)) = 256 * mapD t2 k (x / 256) + t2 (x % 256)
    rw [← ih]
    have e1 : x / 4 = 256 * (x / 256 / 4) + (x / 256 % 4 * 64 + x % 256 / 4) := by omega
    have e2 : x = 256 * (x / 256) + x % 256 := by omega
    have d := t2_dec ⟨x / 256 % 4, Nat.mod_lt _ (by omega)⟩ ⟨x % 256, hr⟩
    dsimp only at d
    have f1 : x / 4 &&& (256 * rep 51 k + 51) = 256 * (x / 256 / 4 &&& rep 51 k) + (x % 256 / 4 &&& 51) := by
      conv => lhs; rw [e1]
      rw [and_digit (by omega) (by omega), d]
    have f2 : x &&& (256 * rep 51 k + 51) = 256 * (x / 256 &&& rep 51 k) + (x % 256 &&& 51) := by
      conv => lhs; rw [e2]
      rw [and_digit (by omega) (by omega)]
    rw [f1, f2]
    unfold t2
    omega
/-- each digit is small -/
def smallD (f : Nat → Nat) : Prop := ∀ b, b < 256 → f b < 69 ∧ f b % 16 < 5
theorem mapD_low {f : Nat → Nat} (hf : smallD f) : ∀ k x, mapD f k x % 16 < 5
  | 0, x => by simp [mapD]
  | k + 1, x => by
    have := (hf (x % 256) (Nat.mod_lt _ (by omega))).2
    unfold mapD
    omega
theorem st3 {f : Nat → Nat} (hf : smallD f) : ∀ k x, (mapD f k x / 16 + mapD f k x) &&& rep 15 k = mapD (fun b => t3 (f b)) k x
  | 0, x => by simp [rep, mapD]
  | k + 1, x => by
    have ih := st3 hf k (x / 256)
    have h1 := mapD_low hf k (x / 256)
    have h2 := hf (x % 256) (Nat.mod_lt _ (by omega))
    show (mapD f (k + 1) x / 16 + mapD f (k + 1) x) &&& (256 * rep 15 k + 15) = 256 * mapD (fun b => t3 (f b)) k (x / 256) + t3 (f (x % 256))
    rw [show mapD f (k + 1) x = 256 * mapD f k (x / 256) + f (x % 256) from rfl]
    generalize mapD f k (x / 256) = q at *
    generalize f (x % 256) = r at *
    have d := t3_dec ⟨q % 16, h1⟩ ⟨r, h2.1⟩
    dsimp only at d
    have e : (256 * q + r) / 16 + (256 * q + r) = 256 * (q / 16 + q) + (q % 16 * 16 + r / 16 + r) := by omega
    rw [e, and_digit (by omega) (by omega), ih, d.1]
    rfl
theorem all_steps (k x : Nat) (_h : x < 256 ^ k) : ((mapD t2 k (mapD t1 k x)) / 16 + mapD t2 k (mapD t1 k x)) &&& rep 15 k = mapD (popN 8) k x := by
  rw [mapD_comp (f := t1) (g := t2) (fun b hb => (t_pop ⟨b, hb⟩).2.2.2)]
  rw [st3 (f := fun b => t2 (t1 b)) (fun b hb => ⟨(t_pop ⟨b, hb⟩).2.1, (t_pop ⟨b, hb⟩).2.2.1⟩)]
  exact mapD_congr (fun b hb => (t_pop ⟨b, hb⟩).1) k x
theorem div1 {a b : Nat} (h : a < 256) : (a + 256 * b) / 256 = b := by omega
theorem div2 {a b c : Nat} (h : a < 256) (h' : b < 256) : (a + 256 * (b + 256 * c)) / 65536 = c := by omega
theorem div4 {a b c d e : Nat} (h : a < 256) (h' : b < 256) (h2 : c < 256) (h3 : d < 256) : (a + 256 * (b + 256 * (c + 256 * (d + 256 * e)))) / 4294967296 = e := by omega
theorem mod128 {a b : Nat} (h : a < 128) : (a + 256 * b) % 128 = a := by omega
theorem dadd (a b u v : Nat) : a + 256 * u + (b + 256 * v) = (a + b) + 256 * (u + v) := by omega
theorem dadd0 (a b u : Nat) : a + 256 * u + b = (a + b) + 256 * u := by omega
theorem dle {a b A B : Nat} (h : a ≤ A) (k : b ≤ B) : a + 256 * b ≤ A + 256 * B := by omega
theorem fold_bytes {p0 p1 p2 p3 p4 p5 p6 p7 : Nat} (h0 : p0 ≤ 8) (h1 : p1 ≤ 8) (h2 : p2 ≤ 8) (h3 : p3 ≤ 8) (h4 : p4 ≤ 8) (h5 : p5 ≤ 8) (h6 : p6 ≤ 8) (h7 : p7 ≤ 8) {y z1 z2 z3 : Nat}
    (hy : y = p0 + 256 * (p1 + 256 * (p2 + 256 * (p3 + 256 * (p4 + 256 * (p5 + 256 * (p6 + 256 * p7))))))) (e1 : z1 = y + y / 256) (e2 : z2 = z1 + z1 / 65536) (e3 : z3 = z2 + z2 / 4294967296) :
    z3 % 128 = p0 + p1 + p2 + p3 + p4 + p5 + p6 + p7 ∧ y < 2305843009213693952 ∧ z1 < 4611686018427387904 ∧ z2 < 9223372036854775808 ∧ z3 < 18446744073709551616 := by
  revert hy e1 e2 e3
  have a0 : p0 + p1 ≤ 16 := by omega
  have a1 : p1 + p2 ≤ 16 := by omega
  have a2 : p2 + p3 ≤ 16 := by omega
  have a3 : p3 + p4 ≤ 16 := by omega
  have a4 : p4 + p5 ≤ 16 := by omega
  have a5 : p5 + p6 ≤ 16 := by omega
  have a6 : p6 + p7 ≤ 16 := by omega
  have b0 : p0 + p1 + (p2 + p3) ≤ 32 := by omega
  have b1 : p1 + p2 + (p3 + p4) ≤ 32 := by omega
  have b2 : p2 + p3 + (p4 + p5) ≤ 32 := by omega
  have b3 : p3 + p4 + (p5 + p6) ≤ 32 := by omega
  have b4 : p4 + p5 + (p6 + p7) ≤ 32 := by omega
  have b5 : p5 + p6 + p7 ≤ 32 := by omega
  have b6 : p6 + p7 ≤ 32 := by omega
  have c0 : p0 + p1 + (p2 + p3) + (p4 + p5 + (p6 + p7)) ≤ 64 := by omega
  have c1 : p1 + p2 + (p3 + p4) + (p5 + p6 + p7) ≤ 64 := by omega
  have c2 : p2 + p3 + (p4 + p5) + (p6 + p7) ≤ 64 := by omega
  have c3 : p3 + p4 + (p5 + p6) + p7 ≤ 64 := by omega
  have c4 : p4 + p5 + (p6 + p7) ≤ 64 := by omega
  have c5 : p5 + p6 + p7 ≤ 64 := by omega
  have c6 : p6 + p7 ≤ 64 := by omega
  have tot : p0 + p1 + (p2 + p3) + (p4 + p5 + (p6 + p7)) = p0 + p1 + p2 + p3 + p4 + p5 + p6 + p7 := by omega
  intro hy e1 e2 e3
  have f1 : z1 = (p0 + p1) + 256 * ((p1 + p2) + 256 * ((p2 + p3) + 256 * ((p3 + p4) + 256 * ((p4 + p5) + 256 * ((p5 + p6) + 256 * ((p6 + p7) + 256 * p7)))))) := by
    rw [e1, hy, div1 (Nat.lt_of_le_of_lt h0 (by decide)), dadd, dadd, dadd, dadd, dadd, dadd, dadd0]
  have f2 : z2 = (p0 + p1 + (p2 + p3)) + 256 * ((p1 + p2 + (p3 + p4)) + 256 * ((p2 + p3 + (p4 + p5)) + 256 * ((p3 + p4 + (p5 + p6)) + 256 * ((p4 + p5 + (p6 + p7)) + 256 * ((p5 + p6 + p7) + 256 * ((p6 + p7) + 256 * p7)))))) := by
    rw [e2, f1, div2 (Nat.lt_of_le_of_lt a0 (by decide)) (Nat.lt_of_le_of_lt a1 (by decide)), dadd, dadd, dadd, dadd, dadd, dadd0]
  have f3 : z3 = (p0 + p1 + (p2 + p3) + (p4 + p5 + (p6 + p7))) + 256 * ((p1 + p2 + (p3 + p4) + (p5 + p6 + p7)) + 256 * ((p2 + p3 + (p4 + p5) + (p6 + p7)) + 256 * ((p3 + p4 + (p5 + p6) + p7) + 256 * ((p4 + p5 + (p6 + p7)) + 256 * ((p5 + p6 + p7) + 256 * ((p6 + p7) + 256 * p7)))))) := by
    rw [e3, f2, div4 (Nat.lt_of_le_of_lt b0 (by decide)) (Nat.lt_of_le_of_lt b1 (by decide)) (Nat.lt_of_le_of_lt b2 (by decide)) (Nat.lt_of_le_of_lt b3 (by decide)), dadd, dadd, dadd, dadd0]
  clear e1 e2 e3
  refine ⟨?_, ?_, ?_, ?_, ?_⟩
  · rw [f3, mod128 (Nat.lt_of_le_of_lt c0 (by decide))]
    exact tot
  · rw [hy]
    exact Nat.lt_of_le_of_lt (dle h0 (dle h1 (dle h2 (dle h3 (dle h4 (dle h5 (dle h6 h7))))))) (by decide)
  · rw [f1]
    exact Nat.lt_of_le_of_lt (dle a0 (dle a1 (dle a2 (dle a3 (dle a4 (dle a5 (dle a6 h7))))))) (by decide)
  · rw [f2]
    exact Nat.lt_of_le_of_lt (dle b0 (dle b1 (dle b2 (dle b3 (dle b4 (dle b5 (dle b6 h7))))))) (by decide)
  · rw [f3]
    exact Nat.lt_of_le_of_lt (dle c0 (dle c1 (dle c2 (dle c3 (dle c4 (dle c5 (dle c6 h7))))))) (by decide)
theorem popN_last (z : Nat) : popN 8 z = popN 8 (z % 256) := by
  have h := popN_byte 0 z
  have h0 : popN 0 (z / 256) = 0 := rfl
  rw [h0] at h
  exact h
/-- the whole way: from the third step's number on -/
theorem ones_end (x : Nat) {y z1 z2 z3 : Nat} (hy : y = mapD (popN 8) 8 x) (e1 : z1 = y + y / 256) (e2 : z2 = z1 + z1 / 65536) (e3 : z3 = z2 + z2 / 4294967296) :
    z3 % 128 = popN 64 x ∧ y < 2305843009213693952 ∧ z1 < 4611686018427387904 ∧ z2 < 9223372036854775808 ∧ z3 < 18446744073709551616 := by
  have le : ∀ b, popN 8 (b % 256) ≤ 8 := fun b => pop8_le ⟨b % 256, Nat.mod_lt _ (by omega)⟩
  have hp : popN 64 x = popN 8 (x % 256) + (popN 8 (x / 256 % 256) + (popN 8 (x / 256 / 256 % 256) + (popN 8 (x / 256 / 256 / 256 % 256) + (popN 8 (x / 256 / 256 / 256 / 256 % 256) + (popN 8 (x / 256 / 256 / 256 / 256 / 256 % 256) + (popN 8 (x / 256 / 256 / 256 / 256 / 256 / 256 % 256) + popN 8 (x / 256 / 256 / 256 / 256 / 256 / 256 / 256 % 256))))))) := by
    rw [popN_byte 56, popN_byte 48, popN_byte 40, popN_byte 32, popN_byte 24, popN_byte 16, popN_byte 8, ← popN_last (x / 256 / 256 / 256 / 256 / 256 / 256 / 256)]
  have hm : mapD (popN 8) 8 x = popN 8 (x % 256) + 256 * (popN 8 (x / 256 % 256) + 256 * (popN 8 (x / 256 / 256 % 256) + 256 * (popN 8 (x / 256 / 256 / 256 % 256) + 256 * (popN 8 (x / 256 / 256 / 256 / 256 % 256) + 256 * (popN 8 (x / 256 / 256 / 256 / 256 / 256 % 256) + 256 * (popN 8 (x / 256 / 256 / 256 / 256 / 256 / 256 % 256) + 256 * popN 8 (x / 256 / 256 / 256 / 256 / 256 / 256 / 256 % 256))))))) := by
    simp only [mapD, Nat.mul_zero, Nat.zero_add, Nat.add_comm]
  have h := fold_bytes (le _) (le _) (le _) (le _) (le _) (le _) (le _) (le _) (hy.trans hm) e1 e2 e3
  refine ⟨?_, h.2⟩
  rw [hp, h.1]
  simp only [Nat.add_assoc]
end Go.Proofs.Ytlaflbepidkmnaa
/- Whole numbers as float64: there and back. -/
namespace Go.Proofs.Ytlaflbepidkmnaa
open Ieee

theorem cut_zero (neg : Bool) (n : Nat) : Toward.even.cut neg n 0 = n := by
  simp [Toward.cut, Nat.mod_one]
/-- the word of a whole number -/
def fl (n : Nat) : Nat := Format.write double (.number false n 0)
theorem fl_zero : fl 0 = 0 := by decide +kernel
theorem fl_log {n : Nat} (h0 : 0 < n) (h : n ≤ 1099511627776) : n.log2 ≤ 40 ∧ 2 ^ n.log2 ≤ n ∧ n < 2 ^ (n.log2 + 1) := by
  have h1 : n.log2 < 41 := (Nat.log2_lt (by omega)).2 (Nat.lt_of_le_of_lt h (by decide))
  exact ⟨by omega, Nat.log2_self_le (by omega), Nat.lt_log2_self⟩
/-- scaled: a number of 53 digits -/
theorem fl_mag {n : Nat} (h0 : 0 < n) (h : n ≤ 1099511627776) : 4503599627370496 ≤ n * 2 ^ (52 - n.log2) ∧ n * 2 ^ (52 - n.log2) < 9007199254740992 := by
  obtain ⟨hL, h1, h2⟩ := fl_log h0 h
  have e : (2 : Nat) ^ n.log2 * 2 ^ (52 - n.log2) = 4503599627370496 := by rw [← Nat.pow_add, show n.log2 + (52 - n.log2) = 52 by omega]
  have e2 : (2 : Nat) ^ (n.log2 + 1) * 2 ^ (52 - n.log2) = 9007199254740992 := by rw [← Nat.pow_add, show n.log2 + 1 + (52 - n.log2) = 53 by omega]
  have hp : 0 < 2 ^ (52 - n.log2) := Nat.two_pow_pos _
  exact ⟨by rw [← e]; exact Nat.mul_le_mul_right _ h1, by rw [← e2]; exact Nat.mul_lt_mul_of_pos_right h2 hp⟩
theorem fl_word {n : Nat} (h0 : 0 < n) (h : n ≤ 1099511627776) : fl n = (n.log2 + 1022) * 4503599627370496 + n * 2 ^ (52 - n.log2) := by
  obtain ⟨hL, _, _⟩ := fl_log h0 h
  obtain ⟨hm1, hm2⟩ := fl_mag h0 h
  have hlp : double.leastPlace = -1074 := by decide
  have hb : double.binade = 4503599627370496 := by decide
  have hi : double.infRung = 9218868437227405312 := by decide
  show (if n = 0 then double.word false 0 else double.word false (min ((max ((0 : Int) + (n.log2 : Nat) - (double.fractionBits : Nat)) double.leastPlace - double.leastPlace).toNat * double.binade + Toward.even.cut false (n <<< ((0 : Int) - max ((0 : Int) + (n.log2 : Nat) - (double.fractionBits : Nat)) double.leastPlace).toNat) (max ((0 : Int) + (n.log2 : Nat) - (double.fractionBits : Nat)) double.leastPlace - 0).toNat) double.infRung)) = _
  rw [if_neg (by omega), hlp, hb, hi, show double.fractionBits = 52 from rfl]
  have e1 : max ((0 : Int) + (n.log2 : Nat) - (52 : Nat)) (-1074) = (n.log2 : Int) - 52 := by omega
  rw [e1]
  rw [show ((n.log2 : Int) - 52 - 0).toNat = 0 by omega, cut_zero, show ((0 : Int) - ((n.log2 : Int) - 52)).toNat = 52 - n.log2 by omega, show ((n.log2 : Int) - 52 - -1074).toNat = n.log2 + 1022 by omega, Nat.shiftLeft_eq]
  unfold Format.word
  simp only [Bool.false_eq_true, if_false]
  omega
theorem fl_read {n : Nat} (h0 : 0 < n) (h : n ≤ 1099511627776) : Format.read double (fl n) = .number false (n * 2 ^ (52 - n.log2)) ((n.log2 : Int) - 52) := by
  obtain ⟨hL, _, _⟩ := fl_log h0 h
  obtain ⟨hm1, hm2⟩ := fl_mag h0 h
  rw [fl_word h0 h]
  have hlp : double.leastPlace = -1074 := by decide
  have hb : double.binade = 4503599627370496 := by decide
  have hi : double.infRung = 9218868437227405312 := by decide
  have hs : double.signWeight = 9223372036854775808 := by decide
  generalize n * 2 ^ (52 - n.log2) = m at *
  generalize n.log2 = L at *
  unfold Format.read
  simp only [hlp, hb, hi, hs]
  have d1 : ((L + 1022) * 4503599627370496 + m) / 9223372036854775808 = 0 := by omega
  have d2 : ((L + 1022) * 4503599627370496 + m) % 9223372036854775808 = (L + 1022) * 4503599627370496 + m := by omega
  rw [d1, d2, if_neg (by omega), if_pos (by omega)]
  have d3 : ((L + 1022) * 4503599627370496 + m) % 4503599627370496 = m - 4503599627370496 := by omega
  have d4 : ((L + 1022) * 4503599627370496 + m) / 4503599627370496 = L + 1023 := by omega
  rw [d3, d4]
  simp only [Datum.number.injEq]
  refine ⟨by decide, by omega, by omega⟩
theorem fl_whole {n : Nat} (h : n ≤ 1099511627776) : (Format.read double (fl n)).integral .zero = .number false n 0 := by
  rcases Nat.eq_zero_or_pos n with rfl | h0
  · decide +kernel
  · rw [fl_read h0 h]
    obtain ⟨hL, _, _⟩ := fl_log h0 h
    obtain ⟨hm1, hm2⟩ := fl_mag h0 h
    show Datum.number false (Toward.zero.cut false ((n * 2 ^ (52 - n.log2)) <<< ((n.log2 : Int) - 52).toNat) (-((n.log2 : Int) - 52)).toNat) 0 = _
    rw [show ((n.log2 : Int) - 52).toNat = 0 by omega, show (-((n.log2 : Int) - 52)).toNat = 52 - n.log2 by omega, Nat.shiftLeft_zero]
    have hl : 52 ≤ (n * 2 ^ (52 - n.log2)).log2 := (Nat.le_log2 (by omega)).2 (Nat.le_trans (by decide) hm1)
    show Datum.number false (n * 2 ^ (52 - n.log2) / (1 <<< min (52 - n.log2) ((n * 2 ^ (52 - n.log2)).log2 + 2)) + 0) 0 = _
    rw [Nat.min_eq_left (by omega), Nat.shiftLeft_eq, Nat.one_mul, Nat.mul_div_cancel _ (Nat.two_pow_pos _), Nat.add_zero]
theorem fl_trunc {n : Nat} (h : n ≤ 1099511627776) : FloatKind.f64.encode ((FloatKind.f64.decode (fl n)).integral .zero) = fl n := by
  show Format.write double ((Format.read double (fl n)).integral .zero) = fl n
  rw [fl_whole h]
  rfl
theorem fl_int {n : Nat} (h : n ≤ 1099511627776) : (FloatKind.f64.decode (fl n)).toInt .zero = some (n : Int) := by
  show (match (Format.read double (fl n)).integral .zero with | .number s m _ => some (signed s m 0) | _ => none) = _
  rw [fl_whole h]
  simp [signed]
theorem fl_scaled {n : Nat} (h : n ≤ 1099511627776) : ∃ m i, Format.read double (fl n) = .number false m i ∧ -1074 ≤ i ∧ ∀ base : Int, base ≤ i → -1074 ≤ base → m <<< (i - base).toNat = n * 2 ^ (-base).toNat := by
  rcases Nat.eq_zero_or_pos n with rfl | h0
  · exact ⟨0, -1074, by decide +kernel, by omega, fun base h1 h2 => by simp [Nat.shiftLeft_eq]⟩
  · obtain ⟨hL, _, _⟩ := fl_log h0 h
    refine ⟨_, _, fl_read h0 h, by omega, fun base h1 h2 => ?_⟩
    rw [Nat.shiftLeft_eq, Nat.mul_assoc, ← Nat.pow_add]
    congr 2
    omega
theorem fl_order {a b : Nat} (ha : a ≤ 1099511627776) (hb : b ≤ 1099511627776) : double.order (fl a) (fl b) = some (compare a b) := by
  obtain ⟨m, i, e1, i1, h1⟩ := fl_scaled ha
  obtain ⟨k, j, e2, j1, h2⟩ := fl_scaled hb
  unfold Format.order
  rw [e1, e2]
  show some (compare ((m <<< (i - min i j).toNat : Nat) : Int) ((k <<< (j - min i j).toNat : Nat) : Int)) = _
  rw [h1 (min i j) (by omega) (by omega), h2 (min i j) (by omega) (by omega)]
  have hp : 0 < 2 ^ (-min i j).toNat := Nat.two_pow_pos _
  generalize 2 ^ (-min i j).toNat = c at *
  congr 1
  rcases Nat.lt_trichotomy a b with h | rfl | h
  · have h3 : a * c < b * c := Nat.mul_lt_mul_of_pos_right h hp
    rw [show compare a b = .lt from Nat.compare_eq_lt.2 h]
    simp only [compare, compareOfLessAndEq]
    rw [if_pos (by omega)]
  · rw [show compare a a = .eq from Nat.compare_eq_eq.2 rfl]
    simp only [compare, compareOfLessAndEq]
    rw [if_neg (by omega)]
    simp
  · have h3 : b * c < a * c := Nat.mul_lt_mul_of_pos_right h hp
    rw [show compare a b = .gt from Nat.compare_eq_gt.2 h]
    simp only [compare, compareOfLessAndEq]
    rw [if_neg (by omega), if_neg (by omega)]
end Go.Proofs.Ytlaflbepidkmnaa
/- Kbit -/
namespace Go.Proofs.Ytlaflbepidkmnaa
open Go.RowKit
set_option linter.unusedSimpArgs false
set_option maxRecDepth 100000
set_option maxHeartbeats 6400000

theorem u64_nat {n : Nat} (h : n < 18446744073709551616) : IntKind.u64.wrap (n : Int) = (n : Int) := by
  rw [IntKind.wrap_u64]
  omega
theorem ones_steps (x : Nat) (hx : x < 18446744073709551616) : ∃ y1 y2 y3 z1 z2 z3 : Nat,
    IntKind.u64.wrap (bits BinOp.and IntKind.u64 ((x : Int) / 2) 6148914691236517205 + bits BinOp.and IntKind.u64 (x : Int) 6148914691236517205) = (y1 : Int) ∧
    IntKind.u64.wrap (bits BinOp.and IntKind.u64 ((y1 : Int) / 4) 3689348814741910323 + bits BinOp.and IntKind.u64 (y1 : Int) 3689348814741910323) = (y2 : Int) ∧
    bits BinOp.and IntKind.u64 (IntKind.u64.wrap ((y2 : Int) / 16 + (y2 : Int))) 1085102592571150095 = (y3 : Int) ∧
    IntKind.u64.wrap ((y3 : Int) + (y3 : Int) / 256) = (z1 : Int) ∧ IntKind.u64.wrap ((z1 : Int) + (z1 : Int) / 65536) = (z2 : Int) ∧ IntKind.u64.wrap ((z2 : Int) + (z2 : Int) / 4294967296) = (z3 : Int) ∧
    z3 % 128 = popN 64 x ∧ z3 < 18446744073709551616 := by
  have r85 : rep 85 8 = 6148914691236517205 := by decide
  have r51 : rep 51 8 = 3689348814741910323 := by decide
  have r15 : rep 15 8 = 1085102592571150095 := by decide
  have s1 := st1 8 x hx
  rw [r85] at s1
  have hy1 : mapD t1 8 x < 18446744073709551616 := by
    rw [← s1]
    have a := Nat.and_le_right (n := x / 2) (m := 6148914691236517205)
    have b := Nat.and_le_right (n := x) (m := 6148914691236517205)
    omega
  have s2 := st2 8 (mapD t1 8 x) hy1
  rw [r51] at s2
  have s3 := all_steps 8 x hx
  rw [r15] at s3
  have hy2 : mapD t2 8 (mapD t1 8 x) ≤ 7378697629483820646 := by
    rw [← s2]
    have a := Nat.and_le_right (n := mapD t1 8 x / 4) (m := 3689348814741910323)
    have b := Nat.and_le_right (n := mapD t1 8 x) (m := 3689348814741910323)
    omega
  generalize mapD t2 8 (mapD t1 8 x) = y2 at *
  generalize mapD t1 8 x = y1 at *
  have hend := fun (z1 z2 z3 : Nat) h1 h2 h3 => ones_end x (y := mapD (popN 8) 8 x) (z1 := z1) (z2 := z2) (z3 := z3) rfl h1 h2 h3
  generalize mapD (popN 8) 8 x = y3 at *
  obtain ⟨z1, k1⟩ : ∃ z, z = y3 + y3 / 256 := ⟨_, rfl⟩
  obtain ⟨z2, k2⟩ : ∃ z, z = z1 + z1 / 65536 := ⟨_, rfl⟩
  obtain ⟨z3, k3⟩ : ∃ z, z = z2 + z2 / 4294967296 := ⟨_, rfl⟩
  obtain ⟨e, b1, b2, b3, b4⟩ := hend z1 z2 z3 k1 k2 k3
  clear hend
  refine ⟨y1, y2, y3, z1, z2, z3, ?_, ?_, ?_, ?_, ?_, ?_, e, b4⟩
  · rw [show ((x : Int) / 2) = ((x / 2 : Nat) : Int) by omega, show (6148914691236517205 : Int) = ((6148914691236517205 : Nat) : Int) from rfl, bits_and_u64_nat _ _ (by omega) (by decide), bits_and_u64_nat _ _ hx (by decide), ← Int.natCast_add, s1, u64_nat hy1]
  · rw [show ((y1 : Int) / 4) = ((y1 / 4 : Nat) : Int) by omega, show (3689348814741910323 : Int) = ((3689348814741910323 : Nat) : Int) from rfl, bits_and_u64_nat _ _ (by omega) (by decide), bits_and_u64_nat _ _ hy1 (by decide), ← Int.natCast_add, s2, u64_nat (by omega)]
  · rw [show ((y2 : Int) / 16 + y2) = ((y2 / 16 + y2 : Nat) : Int) by omega, show (1085102592571150095 : Int) = ((1085102592571150095 : Nat) : Int) from rfl, u64_nat (by omega), bits_and_u64_nat _ _ (by omega) (by decide), s3]
  · rw [show ((y3 : Int) + (y3 : Int) / 256) = (z1 : Int) by omega, u64_nat (by omega)]
  · rw [show ((z1 : Int) + (z1 : Int) / 65536) = (z2 : Int) by omega, u64_nat (by omega)]
  · rw [show ((z2 : Int) + (z2 : Int) / 4294967296) = (z3 : Int) by omega, u64_nat b4]
theorem ones_fin (z n : Nat) (h : z % 128 = n) : bits BinOp.and IntKind.i64 (wrap64 (z : Int)) 127 = (n : Int) := by
  rw [i64_and127, ← h]
  unfold wrap64
  omega
theorem ret_i {a b : Int} (h : a = b) : Ending.returned (.int .i64 a) = .returned (.int .i64 b) := by rw [h]
attribute [local irreducible] popN
theorem has_bit (x i : Nat) (hx : x < 18446744073709551616) : (bits BinOp.and IntKind.u64 ((x : Int) / 2 ^ i) 1 == 1) = x.testBit i := by
  have h2 : ((x : Int) / 2 ^ i) = ((x / 2 ^ i : Nat) : Int) := by push_cast; rfl
  have h3 : x / 2 ^ i < 18446744073709551616 := Nat.lt_of_le_of_lt (Nat.div_le_self _ _) hx
  rw [h2]
  generalize hq : x / 2 ^ i = q at *
  rw [Nat.testBit_eq_decide_div_mod_eq, hq, show (1 : Int) = ((1 : Nat) : Int) from rfl, bits_and_u64_nat _ _ h3 (by decide), Nat.and_one_is_mod, Bool.eq_iff_iff, beq_iff_eq, decide_eq_true_eq]
  omega
theorem has_any (x : Nat) (i : Nat) (hi : i < 64) (hx : x < 18446744073709551616) (w : World) :
    Calls Try.prog 53 #[.int .u64 x, .int .i64 i] w fun e w' => e = .returned (.bool (x.testBit i)) ∧ w = w' := by
  go_enter Try.func53, Try.ntmps53
  go_wp2_with (fail)
  go_ret
  exact ⟨rb (has_bit x i hx), rfl⟩
/-- the set bits below k -/
def bitsL (x k : Nat) : List Int := ((List.range k).filter x.testBit).map fun (i : Nat) => (i : Int)
theorem bitsL_step (x k : Nat) : bitsL x (k + 1) = bif x.testBit k then bitsL x k ++ [(k : Int)] else bitsL x k := by
  unfold bitsL
  rw [List.range_succ, List.filter_append]
  cases h : x.testBit k <;> simp [h]
theorem bitsL_len (x k : Nat) : (bitsL x k).length = popN k x := by
  unfold bitsL popN
  rw [List.length_map, List.countP_eq_length_filter]
theorem bitsL_le (x k : Nat) : (bitsL x k).length ≤ k := by
  unfold bitsL
  rw [List.length_map]
  exact Nat.le_trans (List.length_filter_le _ _) (by simp)
theorem infoInt : (Try.prog.info? 3).map (fun i => (i.zero, i.size, i.bytes)) = some (some (.int .i64 0), 1, 8) := by kernel_rfl
def encN (x : Int) : List Value := [.int .i64 x]
theorem OwnL.slice {α : Type} {enc : α → List Value} {w : World} {base size : Nat} {e : TypeId} {v : Value} {xs : List α} (h : OwnL enc w base e size v xs) : ∃ A c, v = .slice A xs.length c := by
  obtain ⟨A, c, e, _, _⟩ := h.form
  exact ⟨A, c, e⟩
theorem encN_one (y : Int) : ∀ u ∈ encN y, u.oneCell' = true := by
  intro u hu
  obtain rfl := List.mem_singleton.1 hu
  rfl
theorem list2_any (x : Nat) (hx : x < 18446744073709551616) (w : World) :
    Calls Try.prog 78 #[.int .u64 x] w fun e w' => ∃ v, e = .returned v ∧ OwnL encN w' w.heap.size 3 1 v (bitsL x 64) ∧ Below w.heap.size w w' := by
  go_enter Try.func78, Try.ntmps78
  go_wp2_with (fail)
  go_loopw [3, 4] (fun v i wr => ∃ k : Nat, k ≤ 64 ∧ i = .int .i64 k ∧ OwnL encN wr w.heap.size 3 1 v (bitsL x k) ∧ Below w.heap.size w wr) (fun _ i _ => 64 - (intOf i).toNat)
  case atStart => exact ⟨0, Nat.zero_le _, rfl, OwnL.nil, Below.refl _ _⟩
  case round =>
    obtain ⟨k, hk, rfl, hO, hL⟩ := hrel
    obtain ⟨A, c, e, _, _⟩ := hO.form
    subst e
    by_cases hlt : k < 64
    · have hs := bitsL_step x k
      have hle := bitsL_le x k
      go_wp2_with (fail)
      refine (has_any x k hlt hx _).mono ?_
      rintro e w1 ⟨rfl, rfl⟩
      cases hq : x.testBit k with
      | false =>
        rw [hq] at hs
        simp only [cond_false] at hs
        have hO1 : OwnL encN wr w.heap.size 3 1 (.slice A (bitsL x k).length c) (bitsL x (k + 1)) := by rw [hs]; exact hO
        clear hs hO hle
        generalize (bitsL x k).length = m at *
        go_wp2_with (fail)
        exact ⟨⟨k + 1, hlt, rfl, hO1, hL⟩, by simp [intOf]; omega⟩
      | true =>
        rw [hq] at hs
        simp only [cond_true] at hs
        have H := Lib.hid hs
        clear hs
        have hlt0 := hO.lt
        go_wp2_with (at_builtin; ((refine wpList_push rfl _ _ 40 rfl w.heap.size 3 Try.underlying40 infoInt rfl (by decide) (by decide) encN (bitsL x k) _ rfl (hO.alloc _) (k : Int) wr.heap.size #[.int .i64 k] 3 rfl (Blk.new _ _ _) rfl rfl (encN_one _) ?_ ?_ ?_; (· omega); (· have := hL.size; simp; omega); (intro v2 w2 hown2 hg2 hloc2 _; obtain ⟨A2, c2, rfl⟩ := OwnL.slice hown2))))
        have hX2 := (((Ext.mk hL).alloc (.cells #[.int .i64 k] 3)).grown hg2 (fun j e => (hlt0 j e).1)).below
        have hown3 : OwnL encN w2 w.heap.size 3 1 (.slice A2 ((bitsL x k).length + 1) c2) (bitsL x (k + 1)) := by
          rw [List.length_append, List.length_singleton] at hown2
          rw [H.out]
          exact hown2
        exact ⟨⟨k + 1, hlt, rfl, hown3, hX2⟩, by simp [intOf]; omega⟩
    · obtain rfl : k = 64 := by omega
      generalize (bitsL x 64).length = m at *
      go_wp2_with (fail)
      go_ret
      exact ⟨_, rfl, hO, hL⟩
theorem count2_any (x : Nat) (hx : x < 18446744073709551616) (w : World) :
    Calls Try.prog 64 #[.int .u64 x] w fun e w' => e = .returned (.int .i64 (popN 64 x)) ∧ Below w.heap.size w w' := by
  go_enter Try.func64, Try.ntmps64
  go_wp2_with (fail)
  refine (list2_any x hx _).mono ?_
  rintro e w1 ⟨v, rfl, hO, hb⟩
  obtain ⟨A, c, e, _, _⟩ := hO.form
  subst e
  rw [bitsL_len]
  go_wp2_with (fail)
  go_ret
  exact ⟨rfl, hb⟩
end Go.Proofs.Ytlaflbepidkmnaa
/- Bits: the rising list, what has one bit. -/
namespace Go.Proofs.Ytlaflbepidkmnaa
open Go.RowKit
set_option linter.unusedSimpArgs false
set_option maxRecDepth 100000
set_option maxHeartbeats 6400000

/-- x's bits from p on -/
def fromB (x p : Nat) : Nat := x / 2 ^ p * 2 ^ p
theorem fromB_zero (x : Nat) : fromB x 0 = x := by simp [fromB]
theorem fromB_test (x p i : Nat) : (fromB x p).testBit i = (decide (p ≤ i) && x.testBit i) := by
  unfold fromB
  rw [Nat.testBit_mul_two_pow]
  by_cases h : p ≤ i
  · rw [decide_eq_true h, Bool.true_and, Bool.true_and, Nat.testBit_div_two_pow, show i - p + p = i by omega]
  · rw [decide_eq_false h, Bool.false_and, Bool.false_and]
theorem fromB_le (x p : Nat) : fromB x p ≤ x := Nat.div_mul_le_self _ _
theorem low_test (m j i : Nat) : (2 ^ m * (2 * j + 1)).testBit i = (decide (m ≤ i) && (2 * j + 1).testBit (i - m)) := by
  rw [Nat.mul_comm, Nat.testBit_mul_two_pow]
theorem low_pred (m j i : Nat) : (2 ^ m * (2 * j + 1) - 1).testBit i = if i < m then true else (2 * j).testBit (i - m) := by
  have h1 : 0 < 2 ^ m := Nat.two_pow_pos m
  have e : 2 ^ m * (2 * j + 1) - 1 = 2 ^ m * (2 * j) + (2 ^ m - 1) := by rw [Nat.mul_add]; omega
  rw [e, Nat.testBit_two_pow_mul_add _ (by omega)]
  split
  · rename_i h
    rw [Nat.testBit_two_pow_sub_one]
    simp [h]
  · rfl
theorem low_next (m j i : Nat) : (2 ^ m * (2 * j + 1) &&& (2 ^ m * (2 * j + 1) - 1)).testBit i = (decide (m + 1 ≤ i) && (2 ^ m * (2 * j + 1)).testBit i) := by
  rw [Nat.testBit_and, low_pred, low_test]
  rcases Nat.lt_trichotomy i m with h | h | h
  · rw [decide_eq_false (show ¬ m ≤ i by omega)]; simp
  · subst h
    rw [if_neg (by omega), Nat.sub_self, decide_eq_false (show ¬ i + 1 ≤ i by omega)]
    simp
  · obtain ⟨n, rfl⟩ : ∃ n, i = m + (n + 1) := ⟨i - m - 1, by omega⟩
    rw [if_neg (by omega), decide_eq_true (show m ≤ m + (n + 1) by omega), decide_eq_true (show m + 1 ≤ m + (n + 1) by omega), show m + (n + 1) - m = n + 1 by omega, Nat.testBit_succ, Nat.testBit_succ, show (2 * j + 1) / 2 = j by omega, show 2 * j / 2 = j by omega]
    simp
theorem bitsL_gap (x p m : Nat) (hpm : p ≤ m) (h : ∀ c, p ≤ c → c < m → x.testBit c = false) : bitsL x m = bitsL x p := by
  induction m with
  | zero =>
    have : p = 0 := by omega
    rw [this]
  | succ k ih =>
    by_cases hk : p = k + 1
    · rw [hk]
    · rw [bitsL_step, h k (by omega) (by omega), cond_false]
      exact ih (by omega) (fun c h1 h2 => h c h1 (by omega))
/-- the round: the lowest bit of those from p on, and those behind it -/
theorem bits_round (x p : Nat) (hx : x < 18446744073709551616) (h0 : fromB x p ≠ 0) :
    Lib.ctz 64 (fromB x p) < 64 ∧ p ≤ Lib.ctz 64 (fromB x p) ∧ x.testBit (Lib.ctz 64 (fromB x p)) = true ∧ bitsL x (Lib.ctz 64 (fromB x p) + 1) = bitsL x p ++ [(Lib.ctz 64 (fromB x p) : Int)] ∧
    fromB x p &&& (fromB x p - 1) = fromB x (Lib.ctz 64 (fromB x p) + 1) := by
  have hlt : fromB x p < 2 ^ 64 := Nat.lt_of_le_of_lt (fromB_le x p) hx
  obtain ⟨j, hj, hm⟩ := Lib.ctzFrom_spec 64 (fromB x p) (by omega) hlt
  have e : Lib.ctz 64 (fromB x p) = Lib.ctzFrom 64 (fromB x p) := by unfold Lib.ctz; rw [if_neg h0]
  rw [e]
  generalize Lib.ctzFrom 64 (fromB x p) = m at *
  have ht : ∀ i, (decide (p ≤ i) && x.testBit i) = (decide (m ≤ i) && (2 * j + 1).testBit (i - m)) := fun i => by rw [← fromB_test, hj, low_test]
  have hpm : p ≤ m := by
    have := ht m
    rw [decide_eq_true (Nat.le_refl m), Nat.sub_self] at this
    simp at this
    exact this.1
  have hb : x.testBit m = true := by
    have := ht m
    rw [decide_eq_true (Nat.le_refl m), Nat.sub_self] at this
    simp at this
    exact this.2
  refine ⟨hm, hpm, hb, ?_, ?_⟩
  · rw [bitsL_step, hb, cond_true, bitsL_gap x p m hpm]
    intro c h1 h2
    have := ht c
    rw [decide_eq_true h1, decide_eq_false (by omega)] at this
    simpa using this
  · apply Nat.eq_of_testBit_eq
    intro i
    rw [fromB_test]
    have hn := low_next m j i
    rw [← hj] at hn
    rw [hn, fromB_test]
    by_cases h : m + 1 ≤ i
    · rw [decide_eq_true h, decide_eq_true (show p ≤ i by omega)]; simp
    · rw [decide_eq_false h]; simp
theorem bits_over (x p : Nat) (hp : p ≤ 64) (h0 : fromB x p = 0) : bitsL x p = bitsL x 64 := by
  refine (bitsL_gap x p 64 hp ?_).symm
  intro c h1 h2
  have := fromB_test x p c
  rw [h0, decide_eq_true h1] at this
  simpa using this.symm
theorem u64_pred (c : Nat) (hc : c < 18446744073709551616) (h0 : c ≠ 0) : bits BinOp.and IntKind.u64 (c : Int) ((c : Int) - 1) = ((c &&& (c - 1) : Nat) : Int) := by
  rw [show (c : Int) - 1 = ((c - 1 : Nat) : Int) by omega, bits_and_u64_nat _ _ hc (by omega)]
end Go.Proofs.Ytlaflbepidkmnaa
/- Kcac -/
namespace Go.Proofs.Ytlaflbepidkmnaa
open Go.RowKit
attribute [local go_sem] setCell_twice Ext.alloc Ext.drew
set_option linter.unusedSimpArgs false
set_option maxRecDepth 100000
set_option maxHeartbeats 400000
attribute [local irreducible] Calls

theorem shl_one (i : Nat) (hi : i < 64) : bits BinOp.or IntKind.u64 0 (IntKind.u64.wrap (2 ^ i)) = ((2 ^ i : Nat) : Int) := by
  have h : 2 ^ i < 2 ^ 64 := Nat.pow_lt_pow_right (by decide) hi
  rw [show (2 ^ i : Int) = ((2 ^ i : Nat) : Int) by push_cast; rfl]
  generalize 2 ^ i = p at *
  rw [u64_nat (by omega), show (0 : Int) = ((0 : Nat) : Int) from rfl, bits_or_u64_nat _ _ (by omega) (by omega), Nat.zero_or]
/-- the sets among the first k that task i touched last -/
def heldP (own : List Int) (i : Int) (k : Nat) : Nat := (List.range k).foldl (fun x c => if own.getD c 0 = i + 1 then x ||| 2 ^ c else x) 0
theorem heldP_step (own : List Int) (i : Int) (k : Nat) : heldP own i (k + 1) = if own.getD k 0 = i + 1 then heldP own i k ||| 2 ^ k else heldP own i k := by
  unfold heldP
  rw [List.range_succ, List.foldl_append]
  rfl
theorem heldP_lt (own : List Int) (i : Int) (k : Nat) : heldP own i k < 2 ^ k := by
  induction k with
  | zero => simp [heldP]
  | succ k ih =>
    have h1 : 2 ^ (k + 1) = 2 ^ k * 2 := Nat.pow_succ ..
    rw [heldP_step]
    split
    · exact Nat.or_lt_two_pow (by omega) (by omega)
    · omega
theorem held_or (x k : Nat) (hk : k < 64) (hx : x < 2 ^ k) : bits BinOp.or IntKind.u64 (x : Int) (2 ^ k) = ((x ||| 2 ^ k : Nat) : Int) := by
  rw [show (2 ^ k : Int) = ((2 ^ k : Nat) : Int) by push_cast; rfl]
  have h : 2 ^ k < 2 ^ 64 := Nat.pow_lt_pow_right (by decide) hk
  exact bits_or_u64_nat _ _ (by omega) (by omega)
theorem cell_of_arr (l : List Value) (c : Nat) (v : Value) (w : World) (hn : l.length = 64) (h : l.toArray[c]? = some v) : (Instr.index 84 (.agg l.toArray) (.int .i64 c)).run Try.prog w = .ok v w := by
  have h2 : l[c]? = some v := by rw [← List.getElem?_toArray]; exact h
  obtain ⟨hc, rfl⟩ := List.getElem?_eq_some_iff.1 h2
  have h0 : (0 : Int) ≤ c := by omega
  have h1 : (c : Int) < 64 := by omega
  have h3 : ((c : Int)).toNat = c := by omega
  have h4 : l.length = 64 := hn
  simp [Instr.index, run_underlying Try.underlying84, asIntOf, go_sem, h0, h1, h3, hc]
  intro h; omega
theorem heldP_all (own : List Int) (i : Int) : heldP own i 64 = heldO own i := rfl
theorem andnot_u64 (a b : Nat) (ha : a < 18446744073709551616) (hb : b < 18446744073709551616) : bits BinOp.andNot IntKind.u64 (a : Int) (b : Int) = ((a ^^^ (a &&& b) : Nat) : Int) := by
  have h1 : (BitVec.ofInt 64 (a : Int)).toNat = a := by
    rw [BitVec.ofInt_natCast, BitVec.toNat_ofNat]; exact Nat.mod_eq_of_lt (by omega)
  have h2 : (BitVec.ofInt 64 (b : Int)).toNat = b := by
    rw [BitVec.ofInt_natCast, BitVec.toNat_ofNat]; exact Nat.mod_eq_of_lt (by omega)
  have e : a &&& (2 ^ 64 - (b + 1)) = a ^^^ (a &&& b) := by
    apply Nat.eq_of_testBit_eq
    intro i
    rw [Nat.testBit_and, Nat.testBit_two_pow_sub_succ (by omega), Nat.testBit_xor, Nat.testBit_and]
    by_cases hi : i < 64
    · rw [decide_eq_true hi]
      cases a.testBit i <;> cases b.testBit i <;> rfl
    · have : a.testBit i = false := Nat.testBit_lt_two_pow (Nat.lt_of_lt_of_le (show a < 2 ^ 64 by omega) (Nat.pow_le_pow_right (by decide) (by omega)))
      rw [this]
      simp
  have hx : a ^^^ (a &&& b) < 2 ^ 64 := Nat.xor_lt_two_pow (by omega) (Nat.and_lt_two_pow _ (by omega))
  show IntKind.u64.wrap ((BitVec.ofInt 64 (a : Int) &&& ~~~ BitVec.ofInt 64 (b : Int)).toNat : Int) = _
  rw [BitVec.toNat_and, BitVec.toNat_not, h1, h2, show 2 ^ 64 - 1 - b = 2 ^ 64 - (b + 1) by omega, e, IntKind.wrap_u64]
  omega
/-- task i touches the sets below p -/
def touchQ (own : List Int) (v : Int) (x p : Nat) : List Int := (bitsL x p).foldl (fun o c => o.set c.toNat v) own
theorem touchQ_at (own : List Int) (v : Int) (x p : Nat) : (touchQ own v x p).length = own.length ∧ ∀ c, (touchQ own v x p)[c]? = (own[c]?).map fun o => if c < p ∧ x.testBit c = true then v else o := by
  induction p with
  | zero => exact ⟨rfl, fun c => by simp [touchQ, bitsL]⟩
  | succ k ih =>
    obtain ⟨h1, h2⟩ := ih
    cases hb : x.testBit k with
    | false =>
      have e : touchQ own v x (k + 1) = touchQ own v x k := by unfold touchQ; rw [bitsL_step, hb, cond_false]
      refine ⟨by rw [e]; exact h1, fun c => ?_⟩
      rw [e, h2]
      congr 1
      funext o
      by_cases hc : c = k
      · subst hc; rw [hb]; simp
      · have : (c < k + 1) = (c < k) := by simp only [eq_iff_iff]; omega
        simp only [this]
    | true =>
      have e : touchQ own v x (k + 1) = (touchQ own v x k).set k v := by unfold touchQ; rw [bitsL_step, hb, cond_true, List.foldl_append]; rfl
      refine ⟨by rw [e, List.length_set]; exact h1, fun c => ?_⟩
      rw [e, List.getElem?_set, h1]
      by_cases hc : k = c
      · subst hc
        rw [if_pos rfl]
        by_cases hl : k < own.length
        · rw [if_pos hl, List.getElem?_eq_getElem hl, Option.map_some, hb, if_pos ⟨by omega, rfl⟩]
        · rw [if_neg hl, List.getElem?_eq_none (by omega)]; rfl
      · rw [if_neg hc, h2]
        congr 1
        funext o
        have : (c < k + 1) = (c < k) := by simp only [eq_iff_iff]; omega
        simp only [this]
theorem touchQ_all (own : List Int) (i : Int) (x : Nat) (hl : own.length = 64) : touchQ own (i + 1) x 64 = touchO own i x := by
  apply List.ext_getElem?
  intro c
  rw [(touchQ_at own (i + 1) x 64).2]
  unfold touchO
  rw [List.getElem?_mapIdx]
  by_cases hc : c < own.length
  · rw [List.getElem?_eq_getElem hc, Option.map_some, Option.map_some]
    have : c < 64 := by omega
    simp [this]
  · rw [List.getElem?_eq_none (by omega)]; rfl
theorem OwnL.ints {w : World} {base : Nat} {v : Value} {xs : List Int} (h : OwnL encN w base 3 1 v xs) : Ints w v xs := by
  have := h.read (R := IntR .i64) (F := Any) (fun _ => rfl) (fun _ _ _ => trivial) (fun b o x _ hx => hx 0 _ rfl)
  obtain ⟨A, c, e, h1, h2, h3⟩ := this
  refine ⟨A, c, e, h1, h2, fun hne => ?_⟩
  obtain ⟨b, o, e, _, hx⟩ := h3 hne
  exact ⟨b, o, e, fun i hi => by have := hx i hi; rw [Nat.mul_one] at this; exact this⟩
theorem bitsL_at (x k : Nat) {i : Nat} (hi : i < (bitsL x k).length) : ∃ c : Nat, (bitsL x k)[i] = c ∧ c < k := by
  have h := List.getElem_mem hi
  unfold bitsL at h
  obtain ⟨c, hc, e⟩ := List.mem_map.1 h
  rw [List.mem_filter, List.mem_range] at hc
  exact ⟨c, e.symm, hc.1⟩
end Go.Proofs.Ytlaflbepidkmnaa
/- Kjob -/
namespace Go.Proofs.Ytlaflbepidkmnaa
open Go.RowKit
attribute [local go_sem] setCell_twice Ext.alloc Ext.drew
set_option linter.unusedSimpArgs false
set_option maxRecDepth 100000
set_option maxHeartbeats 400000
attribute [local irreducible] Calls

theorem row_at {w : World} {base : Nat} {v : Value} {xs : List Int} {k : Nat} (h : RowI w base v xs) (hk : k < xs.length) : ∃ b o c, v = .slice (some ⟨b, o, none⟩) xs.length c ∧ xs.length ≤ c ∧ c ≤ maxLen ∧ w.cell? ⟨b, o + k, none⟩ = some (.int .i64 (xs.getD k 0)) := by
  obtain ⟨A, c, rfl, h1, h2⟩ := OwnL.form h
  obtain ⟨b, o, rfl, hx⟩ := (RowI.ints h).at hk
  refine ⟨b, o, c, rfl, h1, h2, ?_⟩
  rw [getD_at hk]
  exact hx w (Ext.refl w)
end Go.Proofs.Ytlaflbepidkmnaa
/- Kn0 -/
namespace Go.Proofs.Ytlaflbepidkmnaa
open Go.RowKit
attribute [local go_sem] setCell_twice Ext.alloc Ext.drew
set_option linter.unusedSimpArgs false
set_option maxRecDepth 100000
set_option maxHeartbeats 400000
attribute [local irreducible] Calls

theorem encWa_one (p : Int × Int) : ∀ u ∈ encWa p, u.oneCell' = true := by
  intro u hu
  simp only [encWa, List.mem_cons, List.not_mem_nil, or_false] at hu
  rcases hu with rfl | rfl | rfl <;> rfl
theorem regs_in {xs : List Int} (h : ∀ x ∈ xs, 1 ≤ x ∧ x ≤ 10000) : xs.all regB = true := by
  rw [List.all_eq_true]
  intro x hx
  have := h x hx
  unfold regB
  rw [decide_eq_true (by omega), decide_eq_true (by omega)]
  rfl
theorem dem_step (_rs ds : List Int) (k : Nat) : (List.range (k + 1)).map (demL ds) = (List.range k).map (demL ds) ++ [demL ds k] := by rw [List.range_succ, List.map_append]; rfl
end Go.Proofs.Ytlaflbepidkmnaa
/- Ktab -/
namespace Go.Proofs.Ytlaflbepidkmnaa
open Go.RowKit
attribute [local go_sem] setCell_twice ByteArray.toList_eq str_list Ext.alloc Ext.drew
set_option linter.unusedSimpArgs false
set_option maxRecDepth 100000
set_option maxHeartbeats 400000
attribute [local irreducible] Calls

def encSt (x : St) : List Value := [.bool x.pend, .bool x.start, .bool x.mid, .int .i64 x.arr]
theorem encSt_len (x : St) : (encSt x).length = 4 := rfl
def stV (x : St) : Value := .agg #[.bool x.pend, .bool x.start, .bool x.mid, .int .i64 x.arr]
/-- a table at gt, its row at g; ty: the table's type -/
structure TabAt (ty : TypeId) (w : World) (gt g : Nat) (tab : List St) : Prop where
  box : Blk w gt #[.slice (some ⟨g, 0, none⟩) tab.length tab.length] ty
  row : RowBk encSt w g 113 tab
  len : tab.length ≤ 8
theorem TabAt.ext {ty : TypeId} {w w' : World} {gt g : Nat} {tab : List St} (h : TabAt ty w gt g tab) (hx : Ext w w') : TabAt ty w' gt g tab := ⟨h.box.ext hx, h.row.ext hx, h.len⟩
theorem TabAt.chg {ty : TypeId} {F : Nat → Prop} {w w' : World} {gt g : Nat} {tab : List St} (h : TabAt ty w gt g tab) (hx : Chg F w w') (h1 : ¬ F gt) (h2 : ¬ F g) : TabAt ty w' gt g tab := ⟨h.box.chg hx h1, h.row.chg hx h2, h.len⟩
theorem TabAt.cells {ty : TypeId} {w : World} {gt g : Nat} {tab : List St} (h : TabAt ty w gt g tab) {i : Nat} (hi : i < tab.length) :
    w.cell? ⟨g, i * 4, none⟩ = some (.bool (stAt tab i).pend) ∧ w.cell? ⟨g, i * 4 + 1, none⟩ = some (.bool (stAt tab i).start) ∧ w.cell? ⟨g, i * 4 + 2, none⟩ = some (.bool (stAt tab i).mid) ∧ w.cell? ⟨g, i * 4 + 3, none⟩ = some (.int .i64 (stAt tab i).arr) := by
  have e : stAt tab i = tab[i] := by unfold stAt; rw [getD_at hi]
  rw [e]
  have h0 := h.row.at encSt_len (i := i) (j := 0) hi (by decide)
  have h1 := h.row.at encSt_len (i := i) (j := 1) hi (by decide)
  have h2 := h.row.at encSt_len (i := i) (j := 2) hi (by decide)
  have h3 := h.row.at encSt_len (i := i) (j := 3) hi (by decide)
  exact ⟨h0, h1, h2, h3⟩
/-- has a task a job? -/
def hasB (tab : List St) (i : Int) : Bool := decide (0 ≤ i) && (stAt tab i.toNat).pend
theorem hasB_nat (tab : List St) (i : Nat) : hasB tab i = (stAt tab i).pend := by
  unfold hasB
  rw [decide_eq_true (by omega), Int.toNat_natCast, Bool.true_and]
theorem hasB_neg (tab : List St) {i : Int} (h : i < 0) : hasB tab i = false := by
  unfold hasB
  rw [decide_eq_false (by omega)]
  rfl
theorem int_cases (i : Int) (n : Nat) : i < 0 ∨ (∃ k : Nat, i = k ∧ k < n) ∨ ∃ k : Nat, i = k ∧ n ≤ k := by
  rcases Int.lt_or_le i 0 with h | h
  · exact .inl h
  · obtain ⟨k, rfl⟩ := Int.eq_ofNat_of_zero_le h
    rcases Nat.lt_or_ge k n with h2 | h2
    · exact .inr (.inl ⟨k, rfl, h2⟩)
    · exact .inr (.inr ⟨k, rfl, h2⟩)
/-- task k's state turned, if it has a job -/
def modT (tab : List St) (k : Nat) (f : St → St) : List St := if (stAt tab k).pend = true then tab.set k (f (stAt tab k)) else tab
theorem modT_on {tab : List St} {k : Nat} (f : St → St) (h : (stAt tab k).pend = true) : modT tab k f = tab.set k (f (stAt tab k)) := if_pos h
theorem modT_off {tab : List St} {k : Nat} (f : St → St) (h : (stAt tab k).pend = false) : modT tab k f = tab := if_neg (by rw [h]; simp)
theorem row_all {w : World} {g : Nat} {tab : List St} (h : RowBk encSt w g 113 tab) {k : Nat} (hk : k < tab.length) (x : St) :
    RowBk encSt ((((w.setCell ⟨g, k * 4, none⟩ (.bool x.pend)).setCell ⟨g, k * 4 + 1, none⟩ (.bool x.start)).setCell ⟨g, k * 4 + 2, none⟩ (.bool x.mid)).setCell ⟨g, k * 4 + 3, none⟩ (.int .i64 x.arr)) g 113 (tab.set k x) := by
  have a0 := h.set encSt_len (i := k) (j := 0) (u := .bool x.pend) (x' := { tab[k] with pend := x.pend }) (by decide) (fun _ => rfl)
  have a1 := a0.set encSt_len (i := k) (j := 1) (u := .bool x.start) (x' := { tab[k] with pend := x.pend, start := x.start }) (by decide) (fun _ => by rw [List.getElem_set_self]; rfl)
  have a2 := a1.set encSt_len (i := k) (j := 2) (u := .bool x.mid) (x' := { tab[k] with pend := x.pend, start := x.start, mid := x.mid }) (by decide) (fun _ => by rw [List.getElem_set_self]; rfl)
  have a3 := a2.set encSt_len (i := k) (j := 3) (u := .int .i64 x.arr) (x' := x) (by decide) (fun _ => by rw [List.getElem_set_self]; rfl)
  simp only [List.set_set] at a3
  exact a3
theorem infoSt : (Try.prog.info? 113).map (fun i => (i.zero, i.size, i.bytes)) = some (some (stV St.zero), 4, 16) := by kernel_rfl
theorem made_st0 : madeCells (stV St.zero).cells (0 * 4) = ((List.replicate 0 St.zero).flatMap encSt).toArray := by kernel_rfl
theorem made_st1 : madeCells (stV St.zero).cells (1 * 4) = ((List.replicate 1 St.zero).flatMap encSt).toArray := by kernel_rfl
theorem made_st2 : madeCells (stV St.zero).cells (2 * 4) = ((List.replicate 2 St.zero).flatMap encSt).toArray := by kernel_rfl
theorem made_st3 : madeCells (stV St.zero).cells (3 * 4) = ((List.replicate 3 St.zero).flatMap encSt).toArray := by kernel_rfl
theorem made_st4 : madeCells (stV St.zero).cells (4 * 4) = ((List.replicate 4 St.zero).flatMap encSt).toArray := by kernel_rfl
theorem made_st5 : madeCells (stV St.zero).cells (5 * 4) = ((List.replicate 5 St.zero).flatMap encSt).toArray := by kernel_rfl
theorem made_st6 : madeCells (stV St.zero).cells (6 * 4) = ((List.replicate 6 St.zero).flatMap encSt).toArray := by kernel_rfl
theorem made_st7 : madeCells (stV St.zero).cells (7 * 4) = ((List.replicate 7 St.zero).flatMap encSt).toArray := by kernel_rfl
theorem made_st8 : madeCells (stV St.zero).cells (8 * 4) = ((List.replicate 8 St.zero).flatMap encSt).toArray := by kernel_rfl
theorem made_st {n : Nat} (h : n ≤ 8) : madeCells (stV St.zero).cells (n * 4) = ((List.replicate n St.zero).flatMap encSt).toArray := by
  have h9 : n = 0 ∨ n = 1 ∨ n = 2 ∨ n = 3 ∨ n = 4 ∨ n = 5 ∨ n = 6 ∨ n = 7 ∨ n = 8 := by omega
  clear h
  rcases h9 with rfl | rfl | rfl | rfl | rfl | rfl | rfl | rfl | rfl
  · exact made_st0
  · exact made_st1
  · exact made_st2
  · exact made_st3
  · exact made_st4
  · exact made_st5
  · exact made_st6
  · exact made_st7
  · exact made_st8
theorem make_st {n : Nat} (h : n ≤ 8) (w : World) : (Instr.makeSlice 93 (.int .i64 n) (.int .i64 n)).run Try.prog w = .ok (.slice (some ⟨w.heap.size, 0, none⟩) n n) (w.alloc (.cells ((List.replicate n St.zero).flatMap encSt).toArray 113)) := by
  obtain ⟨i, hi, hz0, hz1, hz2⟩ := info_parts infoSt
  have := run_make w 93 113 i (stV St.zero) Try.underlying93 hi hz0 .i64 .i64 n n (by omega) (Int.le_refl _) (by rw [hz2]; omega) (by omega)
  rw [hz1, Int.toNat_natCast, made_st h] at this
  exact this
/-- a state's cells -/
def StR (w : World) (b o : Nat) (x : St) : Prop := w.cell? ⟨b, o, none⟩ = some (.bool x.pend) ∧ w.cell? ⟨b, o + 1, none⟩ = some (.bool x.start) ∧ w.cell? ⟨b, o + 2, none⟩ = some (.bool x.mid) ∧ w.cell? ⟨b, o + 3, none⟩ = some (.int .i64 x.arr)
theorem StR.ext {w w' : World} {b o : Nat} {x : St} (h : StR w b o x) (hx : Ext w w') : StR w' b o x := ⟨hx.cell h.1, hx.cell h.2.1, hx.cell h.2.2.1, hx.cell h.2.2.2⟩
theorem encSt_one (x : St) : ∀ u ∈ encSt x, u.oneCell' = true := by
  intro u hu
  simp only [encSt, List.mem_cons, List.not_mem_nil, or_false] at hu
  rcases hu with rfl | rfl | rfl | rfl <;> rfl
theorem StR.get {w : World} {b o j : Nat} {x : St} {u : Value} (h : StR w b o x) (hu : (encSt x)[j]? = some u) : w.cell? ⟨b, o + j, none⟩ = some u := by
  have hj := (List.getElem?_eq_some_iff.1 hu).1
  have hj : j < 4 := hj
  match j, hj with
  | 0, _ => cases hu; exact h.1
  | 1, _ => cases hu; exact h.2.1
  | 2, _ => cases hu; exact h.2.2.1
  | 3, _ => cases hu; exact h.2.2.2
theorem OwnL.sts {w : World} {base : Nat} {v : Value} {tab : List St} (h : OwnL encSt w base 113 4 v tab) : SlR StR 4 Any w v tab :=
  OwnL.read h encSt_len (fun _ _ _ => trivial) (fun _ _ _ _ hx => ⟨hx 0 _ rfl, hx 1 _ rfl, hx 2 _ rfl, hx 3 _ rfl⟩)
theorem TabAt.sts {ty : TypeId} {w : World} {gt g : Nat} {tab : List St} (h : TabAt ty w gt g tab) : SlR StR 4 Any w (.slice (some ⟨g, 0, none⟩) tab.length tab.length) tab := by
  refine ⟨_, _, rfl, Nat.le_refl _, by have := h.len; unfold maxLen; omega, fun _ => ⟨g, 0, rfl, trivial, fun i hi => ?_⟩⟩
  have := h.cells hi
  have e : stAt tab i = tab[i] := by unfold stAt; rw [getD_at hi]
  rw [e] at this
  rw [Nat.zero_add]
  exact this
theorem st_news {w : World} {g n c : Nat} {tab : List St} (h : SlR StR 4 Any w (.slice (some ⟨g, 0, none⟩) n c) tab) {j : Nat} {u : Value} (hu : (tab.flatMap encSt)[j]? = some u) : w.cell? ⟨g, 0 + j, none⟩ = some u := by
  have hj := (List.getElem?_eq_some_iff.1 hu).1
  have hlen : (tab.flatMap encSt).length = tab.length * 4 := by
    rw [List.length_flatMap]
    simp [encSt_len, List.map_const', Nat.mul_comm]
  have hi : j / 4 < tab.length := by omega
  obtain ⟨b, o, e, hx⟩ := h.at hi
  have e1 := Option.some.inj e
  injection e1 with e1 e2
  subst e1 e2
  have e3 : j = j / 4 * 4 + j % 4 := by omega
  rw [e3, flat_get encSt_len (by omega) tab _ hi] at hu
  have := hx.get hu
  rw [Nat.zero_add] at this ⊢
  rw [e3]
  exact this
end Go.Proofs.Ytlaflbepidkmnaa
/- Who runs. -/
namespace Go.Proofs.Ytlaflbepidkmnaa
open Go.RowKit
attribute [local go_sem] setCell_twice ByteArray.toList_eq str_list Ext.alloc Ext.drew
set_option linter.unusedSimpArgs false
set_option maxRecDepth 100000
set_option maxHeartbeats 1600000
attribute [local irreducible] Calls

theorem SlR.extT {w w' : World} {v : Value} {tab : List St} (h : SlR StR 4 Any w v tab) (hx : Ext w w') : SlR StR 4 Any w' v tab := h.to fun _ _ _ h => h.ext hx
theorem sts_at {w : World} {A : Option Addr} {n c : Nat} {tab : List St} (h : SlR StR 4 Any w (.slice A n c) tab) {k : Nat} (hk : k < tab.length) : ∃ b o, A = some ⟨b, o, none⟩ ∧ ∀ w', Ext w w' →
    w'.cell? ⟨b, o + k * 4, none⟩ = some (.bool (stAt tab k).pend) ∧ w'.cell? ⟨b, o + k * 4 + 1, none⟩ = some (.bool (stAt tab k).start) ∧ w'.cell? ⟨b, o + k * 4 + 2, none⟩ = some (.bool (stAt tab k).mid) ∧ w'.cell? ⟨b, o + k * 4 + 3, none⟩ = some (.int .i64 (stAt tab k).arr) := by
  obtain ⟨b, o, e, hx⟩ := h.at hk
  have e2 : stAt tab k = tab[k] := by unfold stAt; rw [getD_at hk]
  rw [e2]
  exact ⟨b, o, e, fun w' hw => hx.ext hw⟩
theorem tk_at (s : TSet) {k : Nat} (hk : k < s.tasks.length) : s.tk k = s.tasks[k] := by
  unfold TSet.tk
  rw [getD_at hk]
def stepO (o : Option Int) (x : St) : Option Int := if x.pend = true then (match o with | none => some x.arr | some a => if x.arr < a then some x.arr else some a) else o
theorem old_step (tab : List St) {k : Nat} (hk : k < tab.length) : oldS (tab.take (k + 1)) = stepO (oldS (tab.take k)) (stAt tab k) := by
  unfold oldS
  rw [List.take_succ_eq_append_getElem hk, List.map_append, List.map_singleton, minO_snoc]
  have e : stAt tab k = tab[k] := by unfold stAt; rw [getD_at hk]
  rw [e]
  unfold stepO St.was
  cases tab[k].pend <;> rfl
def waitsB (tab : List St) (q tick : Int) : Bool := match oldS tab with | some a => decide (tick < a + q) | none => false
theorem sts_take {w : World} {A : Option Addr} {n c : Nat} {tab : List St} (h : SlR StR 4 Any w (.slice A n c) tab) {k : Nat} (hk : k ≤ tab.length) : SlR StR 4 Any w (.slice A k c) (tab.take k) := by
  obtain ⟨A', c', e1, h1, h2, h3⟩ := h
  obtain ⟨rfl, _, rfl⟩ := Value.slice.inj e1
  have hl : (tab.take k).length = k := by rw [List.length_take]; omega
  refine ⟨A, c, by rw [hl], by rw [hl]; omega, h2, fun hne => ?_⟩
  obtain ⟨b, o, e, ht, hx⟩ := h3 (fun e => hne (by rw [e]; simp))
  refine ⟨b, o, e, ht, fun i hi => ?_⟩
  rw [hl] at hi
  rw [List.getElem_take]
  exact hx i (by omega)
/-- times as they may be -/
def ArrOk (tab : List St) : Prop := ∀ i, i < tab.length → 0 ≤ (stAt tab i).arr ∧ (stAt tab i).arr ≤ 1099511627776 ∨ (stAt tab i).pend = false
theorem ArrOk.take {tab : List St} (h : ArrOk tab) {k : Nat} (hk : k ≤ tab.length) : ArrOk (tab.take k) := by
  intro i hi
  rw [List.length_take] at hi
  have e : stAt (tab.take k) i = stAt tab i := by
    unfold stAt
    simp only [List.getD, List.getElem?_take]
    rw [if_pos (by omega)]
  rw [e]
  exact h i (by omega)
theorem held_nat (s : TSet) (tab : List St) (k : Nat) (tick : Int) : heldS s tab k tick = ((stAt tab k).pend && (stAt tab k).start && (if (s.tk k).mode = 0 then (stAt tab k).mid else if (s.tk k).mode = 1 then waitsB (tab.take k) (s.tk k).q tick else false)) := by
  unfold heldS waitsB
  rw [decide_eq_true (by omega), Int.toNat_natCast, Bool.true_and]
  rfl
theorem best_step (s : TSet) (tab : List St) (n : Nat) : bestS s tab (n + 1) = if (stAt tab n).pend = true ∧ (bestS s tab n = -1 ∨ rankS s tab n ≤ rankS s tab (bestS s tab n).toNat) then (n : Int) else bestS s tab n := by
  unfold bestS
  rw [List.range_succ, List.foldl_append]
  rfl
end Go.Proofs.Ytlaflbepidkmnaa
