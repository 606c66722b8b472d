/- Lemmas: The kernel in memory; The kernel: late jobs; The kernel: turns; The kernel: runs; The kernel: from tick to tick; which sets it may have; Rows of events: are two one? the last one of a task; Maps with integer keys: a store at a key that is there, while the map is ranged over; a map as a function; A map from int to int64 as a function. -/
import Derived.Test.YtlaflbepidkmnaaProg
import Derived.Test.YtlaflbepidkmnaaZd6
import Derived.Deep.Cut
import Derived.Lib.Hide
import Derived.OwnWalk
import Derived.Maps.AppendAt
import Derived.BigQuiet
import Derived.Laws.Bits64b
import Derived.Laws.Bits128
import Derived.Laws.StructEq
import Derived.Maps.RangeWalk
import Derived.Maps.OwnSet
import Derived.Maps.OwnOps
/- Kat -/
namespace Go.Proofs.Ytlaflbepidkmnaa
open Go.RowKit
set_option linter.unusedSimpArgs false
set_option linter.unusedVariables false
set_option maxRecDepth 100000
set_option maxHeartbeats 400000
attribute [local irreducible] Calls

structure Ow where
  p : Option Nat
  had : Nat
  load : Int
def Ow.zero : Ow := ⟨none, 0, 0⟩
def Ow.ptr (x : Ow) : Value := .pointer (x.p.map fun g => ⟨g, 0, none⟩)
def encOw (x : Ow) : List Value := [x.ptr, .int .u64 x.had, .int .i64 x.load]
theorem encOw_len (x : Ow) : (encOw x).length = 3 := rfl
def owAt (os : List Ow) (i : Nat) : Ow := os.getD i Ow.zero
structure KB where
  gk : Nat
  gp : Nat
  gc : Nat
  gt : Nat
  gs : Nat
  go : Nat
  vt : Value
  vp : Value
  ps : List (Tsk × Value)
  base : Nat
def kcs (b : KB) (s : TSet) (t ran : Int) (ev : Value) : Array Value :=
  #[.int .i64 s.reload, b.vt, .int .i64 t, .int .i64 ran, .pointer (some ⟨b.gp, 0, none⟩), .pointer (some ⟨b.gc, 0, none⟩), .pointer (some ⟨b.gt, 0, none⟩), .slice (some ⟨b.go, 0, none⟩) s.tasks.length s.tasks.length, ev]
/-- the tasks of a kernel -/
structure TRow (w : World) (vt : Value) (ps : List (Tsk × Value)) : Prop where
  row : OwnL encT w 0 34 9 vt ps
  regs : ∀ p ∈ ps, RowI w 0 p.2 p.1.regs
def polL (s : TSet) (k : KS) : List (Int × Int) := (List.range s.tasks.length).map fun i => ((s.tk i).T, k.pol.getD i (-1))
/-- what belongs to it -/
def foot (b : KB) (os : List Ow) (ev : Value) (q : Nat) : Prop := q = b.gk ∨ q = b.gs ∨ q = b.gc ∨ q = b.go ∨ b.vp.ownBlock = some q ∨ ev.ownBlock = some q ∨ ∃ i, (owAt os i).p = some q
/-- what is changed is of these types -/
def FT (w : World) (F : Nat → Prop) (ts : List TypeId) : Prop := ∀ q, F q → ∃ t ∈ ts, ∃ cs, Blk w q cs t
theorem FT.no {w : World} {F : Nat → Prop} {ts : List TypeId} (h : FT w F ts) {g : Nat} {t : TypeId} {cs : Array Value} (hB : Blk w g cs t) (ht : ts.contains t = false) : ¬ F g := fun hF => by
  obtain ⟨t', ht', cs', hB'⟩ := h g hF
  obtain ⟨e, _⟩ := hB.type hB'
  subst e
  rw [List.contains_iff_mem.2 ht'] at ht
  cases ht
theorem FT.own {w : World} {F : Nat → Prop} {ts : List TypeId} (h : FT w F ts) {α : Type} {enc : α → List Value} {base size : Nat} {t : TypeId} {v : Value} {xs : List α} (hO : OwnL enc w base t size v xs) (ht : ts.contains t = false) : ∀ k, v.ownBlock = some k → ¬ F k := fun k hk => by
  obtain ⟨cs, hB⟩ := hO.block hk
  exact h.no hB ht
theorem FT.one {w : World} {g : Nat} {t : TypeId} {cs : Array Value} (hB : Blk w g cs t) : FT w (fun q => q = g) [t] := fun q e => ⟨t, by simp, cs, by rw [e]; exact hB⟩
section
variable {b : KB} {B : Nat} {w w' : World} {s : TSet} {k : KS} {ev : Value} {os : List Ow} {F : Nat → Prop} {ts : List TypeId}
theorem TRow.chg (h : TRow w b.vt b.ps) (hc : Chg F w w') (hF : FT w F ts) (h1 : ts.contains 34 = false) (h2 : ts.contains 2 = false) : TRow w' b.vt b.ps :=
  ⟨h.row.chg hc (hF.own h.row h1), fun p hp => OwnL.chg (h.regs p hp) hc (hF.own (h.regs p hp) h2)⟩
end
/-- the blocks L are as they were -/
def Same (L : Nat → Prop) (w w' : World) : Prop := ∀ q, L q → w'.heap[q]? = w.heap[q]?
theorem Same.trans {L : Nat → Prop} {w w1 w2 : World} (h : Same L w w1) (h2 : Same L w1 w2) : Same L w w2 := fun q hq => (h2 q hq).trans (h q hq)
theorem Same.of_ext {L : Nat → Prop} {w w' : World} (hL : ∀ q, L q → q < w.heap.size) (hx : Ext w w') : Same L w w' := fun q hq => hx.below.block q (hL q hq)
/-- each pending task has a job -/
def HasP (s : TSet) (k : KS) (os : List Ow) : Prop := ∀ i, i < s.tasks.length → (stAt k.tab i).pend = true → (∃ g, (owAt os i).p = some g) ∧ ((stAt k.tab i).start = false → (owAt os i).load = 0)
section
variable {b : KB} {B : Nat} {w w' : World} {s : TSet} {k : KS} {ev : Value} {os : List Ow}
end
end Go.Proofs.Ytlaflbepidkmnaa
/- Klate -/
namespace Go.Proofs.Ytlaflbepidkmnaa
open Go.RowKit
attribute [local go_sem] setCell_twice Ext.alloc Ext.drew
set_option linter.unusedSimpArgs false
set_option linter.unusedVariables false
set_option maxRecDepth 100000
set_option maxHeartbeats 400000
attribute [local irreducible] Calls

theorem TRow.tasks {w : World} {v : Value} {ps : List (Tsk × Value)} (h : TRow w v ps) : Tasks w v (ps.map (·.1)) := by
  have := h.row.read (R := fun w b o p => TaskAt w b o p.1 p.2) (F := Any) (fun _ => rfl) (fun _ _ _ => trivial) (fun b o p hp hx => ⟨RowI.ints (h.regs p hp), hx 0 _ rfl, hx 1 _ rfl, hx 2 _ rfl, hx 3 _ rfl, hx 4 _ rfl, hx 5 _ rfl, hx 6 _ rfl, hx 7 _ rfl, hx 8 _ rfl⟩)
  obtain ⟨A, c, e, h1, h2, h3⟩ := this
  refine ⟨A, c, by rw [List.length_map]; exact e, by rw [List.length_map]; exact h1, h2, fun hne => ?_⟩
  obtain ⟨b, o, e, _, hx⟩ := h3 (fun e => hne (by rw [e]; rfl))
  exact ⟨b, o, e, fun i hi => by
    rw [List.length_map] at hi
    refine ⟨(ps[i]).2, ?_⟩
    have := hx i hi
    rwa [List.getElem_map]⟩
def lateP (s : TSet) (k : KS) (m : Nat) : KS := (List.range m).foldl (late1 s) k
theorem lateP_step (s : TSet) (k : KS) (m : Nat) : lateP s k (m + 1) = late1 s (lateP s k m) m := by
  unfold lateP
  rw [List.range_succ, List.foldl_append]
  rfl
theorem late1_same (s : TSet) (k : KS) (i : Nat) : (late1 s k i).tab = k.tab ∧ (late1 s k i).t = k.t ∧ (late1 s k i).evs.length ≤ k.evs.length + 1 := by
  unfold late1
  split
  · exact ⟨rfl, rfl, by simp [KS.tell]⟩
  · exact ⟨rfl, rfl, by omega⟩
theorem lateP_same (s : TSet) (k : KS) (m : Nat) : (lateP s k m).tab = k.tab ∧ (lateP s k m).t = k.t ∧ (lateP s k m).evs.length ≤ k.evs.length + m := by
  induction m with
  | zero => exact ⟨rfl, rfl, Nat.le_refl _⟩
  | succ m ih =>
    obtain ⟨h1, h2, h3⟩ := ih
    rw [lateP_step]
    obtain ⟨g1, g2, g3⟩ := late1_same s (lateP s k m) m
    exact ⟨g1.trans h1, g2.trans h2, by omega⟩
end Go.Proofs.Ytlaflbepidkmnaa
/- The kernel: tasks come. -/
namespace Go.Proofs.Ytlaflbepidkmnaa
open Go.RowKit
attribute [local go_sem] setCell_twice Ext.alloc Ext.drew
set_option linter.unusedSimpArgs false
set_option linter.unusedVariables false
set_option maxRecDepth 100000
set_option maxHeartbeats 400000
attribute [local irreducible] Calls

def arriveB (s : TSet) (x : Inp) (k : KS) (i : Nat) : KS := if earlyB s k i = true then k.tell 2 i 1 else if (stAt k.tab i).pend = true then k.tell 2 i 2 else admitK s x k i
def arrQ1 (s : TSet) (x : Inp) (k : KS) (c : Int) : KS := if c < s.tasks.length then arriveB s x k c.toNat else k
def arrQ (s : TSet) (x : Inp) (k : KS) (l : List Int) : KS := l.foldl (arrQ1 s x) k
theorem arrQ_all (s : TSet) (x : Inp) (k : KS) (hn : s.tasks.length ≤ 64) : arrQ s x k (bitsL x.arrive 64) = arriveK s x k := by
  have key : ∀ p, arrQ s x k (bitsL x.arrive p) = (List.range (min p s.tasks.length)).foldl (arrive1 s x) k := by
    intro p
    induction p with
    | zero => simp [arrQ, bitsL]
    | succ p ih =>
      rw [bitsL_step]
      by_cases hp : p < s.tasks.length
      · rw [show min (p + 1) s.tasks.length = p + 1 by omega, List.range_succ, List.foldl_append]
        rw [show min p s.tasks.length = p by omega] at ih
        rw [← ih]
        cases hb : x.arrive.testBit p with
        | false => simp [arrive1, hb]
        | true =>
          rw [cond_true]
          unfold arrQ
          rw [List.foldl_append]
          simp only [List.foldl_cons, List.foldl_nil, arrQ1, arrive1, hb]
          rw [if_pos (by omega), Int.toNat_natCast, if_neg (by decide)]
          rfl
      · rw [show min (p + 1) s.tasks.length = min p s.tasks.length by omega, ← ih]
        cases hb : x.arrive.testBit p with
        | false => rfl
        | true =>
          rw [cond_true]
          unfold arrQ
          rw [List.foldl_append]
          simp only [List.foldl_cons, List.foldl_nil, arrQ1]
          rw [if_neg (by omega)]
  rw [key, show min 64 s.tasks.length = s.tasks.length by omega]
  rfl
theorem arrQ_step (s : TSet) (x : Inp) (k : KS) (l : List Int) {m : Nat} (hm : m < l.length) : arrQ s x k (l.take (m + 1)) = arrQ1 s x (arrQ s x k (l.take m)) l[m] := by
  unfold arrQ
  rw [List.take_succ_eq_append_getElem hm, List.foldl_append]
  rfl
theorem arriveB_keep {s : TSet} (hs : KH s) {P : List Ev} (x : Inp) {k : KS} (h : LB s P k) {i : Nat} (hi : i < s.tasks.length) : LB s P (arriveB s x k i) ∧ (arriveB s x k i).t = k.t ∧ (arriveB s x k i).evs.length = k.evs.length + 1 := by
  unfold arriveB
  split
  · exact ⟨h.tell (.inl rfl) (okEv_task (by omega) (by omega)), rfl, by simp [KS.tell]⟩
  · split
    · exact ⟨h.tell (.inl rfl) (okEv_task (by omega) (by omega)), rfl, by simp [KS.tell]⟩
    · rename_i hp
      exact ⟨h.admit hs x hi (by simpa using hp), rfl, by simp [admitK, KS.tell]⟩
theorem arrQ_keep {s : TSet} (hs : KH s) {P : List Ev} (x : Inp) {k : KS} (h : LB s P k) (l : List Int) (hl : ∀ c ∈ l, 0 ≤ c) : LB s P (arrQ s x k l) ∧ (arrQ s x k l).t = k.t ∧ (arrQ s x k l).evs.length ≤ k.evs.length + l.length := by
  induction l generalizing k with
  | nil => exact ⟨h, rfl, Nat.le_refl _⟩
  | cons c l ih =>
    have e : arrQ s x k (c :: l) = arrQ s x (arrQ1 s x k c) l := rfl
    rw [e]
    have h1 : LB s P (arrQ1 s x k c) ∧ (arrQ1 s x k c).t = k.t ∧ (arrQ1 s x k c).evs.length ≤ k.evs.length + 1 := by
      unfold arrQ1
      split
      · rename_i hc
        have h0 := hl c (by simp)
        obtain ⟨a, b, d⟩ := arriveB_keep hs x h (i := c.toNat) (by omega)
        exact ⟨a, b, by omega⟩
      · exact ⟨h, rfl, by omega⟩
    obtain ⟨a, b, d⟩ := ih h1.1 (fun c hc => hl c (by simp [hc]))
    exact ⟨a, b.trans h1.2.1, by have := h1.2.2; simp only [List.length_cons]; omega⟩
theorem polL_at (s : TSet) (k : KS) {i : Nat} (hi : i < s.tasks.length) : ∃ h : i < (polL s k).length, (polL s k)[i] = ((s.tk i).T, k.pol.getD i (-1)) := by
  refine ⟨by simp [polL, hi], ?_⟩
  simp [polL]
theorem early_eq (s : TSet) (k : KS) {i : Nat} (hi : i < s.tasks.length) (h : i < (polL s k).length) : earlyP ((polL s k)[i]) k.t = earlyB s k i := by
  obtain ⟨_, e⟩ := polL_at s k hi
  rw [e]
  rfl
theorem polL_set (s : TSet) (k : KS) {i : Nat} (hi : i < s.tasks.length) (hp : k.pol.length = s.tasks.length) (h : i < (polL s k).length) (t : Int) : (polL s k).set i ((polL s k)[i].1, t) = polL s { k with pol := k.pol.set i t } := by
  obtain ⟨_, e⟩ := polL_at s k hi
  rw [e]
  refine List.ext_getElem (by simp [polL]) fun j h1 h2 => ?_
  have hj : j < s.tasks.length := by simpa [polL] using h2
  rw [List.getElem_set]
  simp only [polL, List.getElem_map, List.getElem_range]
  rw [getD_set (by omega)]
  split
  · rename_i e; subst e; rfl
  · rfl
theorem owAt_set {os : List Ow} {i j : Nat} {x : Ow} (hi : i < os.length) : owAt (os.set i x) j = if i = j then x else owAt os j := by
  unfold owAt
  exact getD_set hi
end Go.Proofs.Ytlaflbepidkmnaa
/- The kernel: tasks come, walked. -/
namespace Go.Proofs.Ytlaflbepidkmnaa
open Go.RowKit
attribute [local go_sem] setCell_twice Ext.alloc Ext.drew
set_option linter.unusedSimpArgs false
set_option linter.unusedVariables false
set_option maxRecDepth 100000
set_option maxHeartbeats 400000
attribute [local irreducible] Calls

theorem callE {P : Program} {f : FuncId} {args : Array Value} {w0 w : World} {u : Value} (hX : Ext w0 w) (h : Calls P f args w fun e w' => e = .returned u ∧ Ext w w') : Calls P f args w fun e w' => e = .returned u ∧ Ext w0 w' :=
  h.mono fun _ _ ⟨he, hb⟩ => ⟨he, hX.trans hb⟩
end Go.Proofs.Ytlaflbepidkmnaa
/- Ktur -/
namespace Go.Proofs.Ytlaflbepidkmnaa
open Go.RowKit
attribute [local go_sem] setCell_twice Ext.alloc Ext.drew
set_option linter.unusedSimpArgs false
set_option linter.unusedVariables false
set_option maxRecDepth 100000
set_option maxHeartbeats 400000
attribute [local irreducible] Calls

/-- who ran last, by the kernel and by the model -/
def Link (k : KS) : Prop := k.last = if 0 ≤ k.ran ∧ (stAt k.tab k.ran.toNat).start = true then k.ran else -1
theorem field_start (p q r : Bool) (t : Int) (w : World) : (Instr.field 113 (.agg #[.bool p, .bool q, .bool r, .int .i64 t]) 1).run Try.prog w = .ok (.bool q) w := by kernel_rfl
theorem field_arr (p q r : Bool) (t : Int) (w : World) : (Instr.field 113 (.agg #[.bool p, .bool q, .bool r, .int .i64 t]) 3).run Try.prog w = .ok (.int .i64 t) w := by kernel_rfl
theorem preK_load (s : TSet) (k : KS) (m : Nat) (h : k.load.length = s.tasks.length) : (preK s k m).load.length = s.tasks.length := by
  unfold preK
  split
  · exact h
  · exact h
theorem preK_had (s : TSet) (k : KS) (m : Nat) (h : k.had.length = s.tasks.length) : (preK s k m).had.length = s.tasks.length := by
  unfold preK
  split
  · show (k.had.set _ _).length = _
    rw [List.length_set]; exact h
  · exact h
theorem preK_last (s : TSet) (k : KS) (m : Nat) : (preK s k m).last = k.last := by
  unfold preK
  split <;> rfl
theorem lostO_lt (own : List Int) (i : Int) (had : Nat) (h : had < 18446744073709551616) : lostO own i had < 18446744073709551616 := by
  unfold lostO
  have h1 : had &&& heldO own i < 2 ^ 64 := Nat.and_lt_two_pow _ (heldP_lt own i 64)
  exact Nat.xor_lt_two_pow (n := 64) (by omega) h1
theorem popN_le (k x : Nat) : popN k x ≤ k := by
  unfold popN
  exact Nat.le_trans List.countP_le_length (by simp)
theorem mul_small {r : Int} (h0 : 0 ≤ r) (h1 : r ≤ 10000) {p : Nat} (hp : p ≤ 64) : 0 ≤ r * (p : Int) ∧ r * (p : Int) ≤ 640000 := by
  constructor
  · exact Int.mul_nonneg h0 (by omega)
  · have := Int.mul_le_mul h1 (show (p : Int) ≤ 64 by omega) (by omega) (by omega)
    omega
theorem had_lt {s : TSet} (hs : KH s) {P : List Ev} {k : KS} {cur : Int} (h : LInv s P k cur) {m : Nat} (hm : m < s.tasks.length) : k.had.getD m 0 < 18446744073709551616 := by
  rw [← h.had m hm]
  have := (hs.bits m hm).1
  exact Nat.lt_of_le_of_lt Nat.and_le_right this
theorem and_ucb (u : Int) (x : Nat) (h0 : 0 ≤ u) (h1 : u.toNat < 2 ^ 64) (hx : x < 2 ^ 64) : bits BinOp.and IntKind.u64 u (x : Int) = ((x &&& u.toNat : Nat) : Int) := by
  obtain ⟨n, rfl⟩ := Int.eq_ofNat_of_zero_le h0
  rw [Int.toNat_natCast] at h1 ⊢
  rw [bits_and_u64_nat _ _ (by omega) (by omega), Nat.and_comm]
end Go.Proofs.Ytlaflbepidkmnaa
/- Krun -/
namespace Go.Proofs.Ytlaflbepidkmnaa
open Go.RowKit
attribute [local go_sem] setCell_twice Ext.alloc Ext.drew
set_option linter.unusedSimpArgs false
set_option linter.unusedVariables false
set_option maxRecDepth 100000
set_option maxHeartbeats 400000
attribute [local irreducible] Calls

theorem and_ecb (u : Int) (x : Nat) (h0 : 0 ≤ u) (h1 : u.toNat < 2 ^ 64) (hx : x < 2 ^ 64) : bits BinOp.and IntKind.u64 (x : Int) u = ((x &&& u.toNat : Nat) : Int) := by
  obtain ⟨n, rfl⟩ := Int.eq_ofNat_of_zero_le h0
  rw [Int.toNat_natCast] at h1 ⊢
  rw [bits_and_u64_nat _ _ (by omega) (by omega)]
/-- a tick of task m's job, its sets touched -/
def runsC (k1 : KS) (now : Nat) : KS :=
  if 0 < k1.load.getD now 0 then { k1 with load := k1.load.set now (k1.load.getD now 0 - 1), tab := k1.tab.set now { stAt k1.tab now with mid := true } }
  else
    let p := (k1.jobs.getD now Jb.zero).step
    let took := k1.t + 1 - (stAt k1.tab now).arr
    let k2 : KS := { k1 with jobs := k1.jobs.set now p.1 }
    let k3 := if p.2.2 = 1 ∨ p.2.2 = 2 then k2.tell 7 now p.2.1 else k2
    if p.2.2 = 2 then { k3.tell 8 now took with tab := k3.tab.set now St.zero, last := -1 }
    else if p.2.2 = 3 then { k3.tell 9 now took with tab := k3.tab.set now St.zero, last := -1 }
    else { k3 with tab := k3.tab.set now { stAt k3.tab now with mid := p.1.mid } }
theorem runsK_C (s : TSet) (k : KS) (m touch : Nat) : runsK s k m touch = runsC { k with own := touchO k.own m (touch &&& (s.tk m).ecb.toNat) } m := rfl
theorem runsC_cases {k1 : KS} {m : Nat} {j2 : Jb} {reg how : Int} (hz : ¬ 0 < k1.load.getD m 0) (hp : (k1.jobs.getD m Jb.zero).step = (j2, reg, how)) :
    (how = 0 → runsC k1 m = { ({ k1 with jobs := k1.jobs.set m j2 } : KS) with tab := k1.tab.set m { stAt k1.tab m with mid := j2.mid } }) ∧
    (how = 1 → runsC k1 m = ({ ({ k1 with jobs := k1.jobs.set m j2 } : KS) with tab := k1.tab.set m { stAt k1.tab m with mid := j2.mid } } : KS).tell 7 m reg) ∧
    (how = 2 → runsC k1 m = { ((({ ({ k1 with jobs := k1.jobs.set m j2 } : KS) with tab := k1.tab.set m { stAt k1.tab m with mid := j2.mid } } : KS).tell 7 m reg).tell 8 m (k1.t + 1 - (stAt k1.tab m).arr)) with tab := k1.tab.set m St.zero, last := -1 }) ∧
    (how = 3 → runsC k1 m = { ((({ ({ k1 with jobs := k1.jobs.set m j2 } : KS) with tab := k1.tab.set m { stAt k1.tab m with mid := j2.mid } } : KS)).tell 9 m (k1.t + 1 - (stAt k1.tab m).arr)) with tab := k1.tab.set m St.zero, last := -1 }) := by
  unfold runsC
  rw [if_neg hz, hp]
  refine ⟨?_, ?_, ?_, ?_⟩ <;> rintro rfl <;> simp [KS.tell]
end Go.Proofs.Ytlaflbepidkmnaa
/- The kernel: a tick. -/
namespace Go.Proofs.Ytlaflbepidkmnaa
open Go.RowKit
attribute [local go_sem] setCell_twice Ext.alloc Ext.drew
set_option linter.unusedSimpArgs false
set_option linter.unusedVariables false
set_option maxRecDepth 100000
set_option maxHeartbeats 400000
attribute [local irreducible] Calls

theorem heldS_link {s : TSet} {k : KS} (h : Link k) (hr : -1 ≤ k.ran) : chooseS s k.tab k.ran k.t = chooseS s k.tab k.last k.t := by
  unfold Link at h
  by_cases hc : 0 ≤ k.ran ∧ (stAt k.tab k.ran.toNat).start = true
  · rw [if_pos hc] at h; rw [h]
  · rw [if_neg hc] at h
    have e1 : heldS s k.tab k.ran k.t = false := by
      unfold heldS
      by_cases h0 : 0 ≤ k.ran
      · have : (stAt k.tab k.ran.toNat).start = false := by
          cases hs : (stAt k.tab k.ran.toNat).start with
          | false => rfl
          | true => exact absurd ⟨h0, hs⟩ hc
        rw [this]
        simp
      · rw [decide_eq_false h0]; rfl
    have e2 : heldS s k.tab k.last k.t = false := by
      unfold heldS
      rw [h, decide_eq_false (by omega)]; rfl
    unfold chooseS
    rw [e1, e2]
    rfl
theorem Link.late {s : TSet} {k : KS} (h : Link k) : Link (lateK s k) ∧ (lateK s k).ran = k.ran := by
  have : (lateK s k).tab = k.tab ∧ (lateK s k).ran = k.ran ∧ (lateK s k).last = k.last := by
    unfold lateK
    refine fold_range (fun k' => k'.tab = k.tab ∧ k'.ran = k.ran ∧ k'.last = k.last) (late1 s) _ k ⟨rfl, rfl, rfl⟩ fun k' i hi h => ?_
    unfold late1
    split
    · exact h
    · exact h
  obtain ⟨h1, h2, h3⟩ := this
  refine ⟨?_, h2⟩
  unfold Link
  rw [h1, h2, h3]
  exact h
theorem Link.arrive {s : TSet} (hs : KH s) {P : List Ev} {k : KS} (hL : LB s P k) (h : Link k) (hr2 : k.ran < s.tasks.length) (x : Inp) : Link (arriveK s x k) ∧ (arriveK s x k).ran = k.ran := by
  have : LB s P (arriveK s x k) ∧ Link (arriveK s x k) ∧ (arriveK s x k).ran = k.ran := by
    unfold arriveK
    refine fold_range (fun k' => LB s P k' ∧ Link k' ∧ k'.ran = k.ran) (arrive1 s x) _ k ⟨hL, h, rfl⟩ fun k' i hi h => ?_
    unfold arrive1
    split
    · exact h
    · split
      · exact ⟨h.1.tell (.inl rfl) (okEv_task (by omega) (by omega)), h.2⟩
      · split
        · exact ⟨h.1.tell (.inl rfl) (okEv_task (by omega) (by omega)), h.2⟩
        · rename_i hp
          have hpf : (stAt k'.tab i).pend = false := by simpa using hp
          refine ⟨h.1.admit hs x hi hpf, ?_, h.2.2⟩
          have hz := h.1.inv.zero i hi hpf
          have hl := h.1.inv.lt
          have h2 := h.2.1
          unfold Link at h2 ⊢
          show k'.last = if 0 ≤ k'.ran ∧ (stAt (k'.tab.set i ⟨true, false, false, k'.t⟩) k'.ran.toNat).start = true then k'.ran else -1
          rw [stAt_set (by omega)]
          by_cases e : i = k'.ran.toNat
          · rw [if_pos e]
            rw [← e, hz] at h2
            exact h2
          · rw [if_neg e]; exact h2
  exact this.2
/-- a tick from the choice on -/
def stepE (s : TSet) (k1 : KS) (x : Inp) : KS :=
  let now := chooseS s k1.tab k1.last k1.t
  let k2 := if now = -1 then k1.tell 10 (-1) 0 else runsK s { turnK s k1 now.toNat with last := now } now.toNat x.touch
  { k2 with ran := now, t := k2.t + 1 }
theorem foot_nil {b : KB} {os : List Ow} {ev : Value} {q : Nat} (h : foot b os (.slice none 0 0) q) : foot b os ev q := by
  rcases h with h | h | h | h | h | h | h
  · exact .inl h
  · exact .inr (.inl h)
  · exact .inr (.inr (.inl h))
  · exact .inr (.inr (.inr (.inl h)))
  · exact .inr (.inr (.inr (.inr (.inl h))))
  · cases h
  · exact .inr (.inr (.inr (.inr (.inr (.inr h)))))
theorem turnK_evs (s : TSet) (k : KS) (m : Nat) : (turnK s k m).evs.length ≤ k.evs.length + 2 := by
  have h1 : (preK s k m).evs.length ≤ k.evs.length + 1 := by
    unfold preK
    split
    · simp [KS.tell]
    · omega
  unfold turnK
  dsimp only
  split
  · simp only [KS.tell, List.length_append, List.length_singleton]; omega
  · split
    · simp only [KS.tell, List.length_append, List.length_singleton]; omega
    · omega
theorem turnK_ran (s : TSet) (k : KS) (m : Nat) : (turnK s k m).ran = k.ran := by
  have h1 : (preK s k m).ran = k.ran := by
    unfold preK
    split <;> rfl
  unfold turnK
  dsimp only
  split
  · exact h1
  · split
    · exact h1
    · exact h1
theorem runsC_tr (k : KS) (m : Nat) : (runsC k m).t = k.t ∧ (runsC k m).ran = k.ran := by
  unfold runsC
  dsimp only
  split
  · exact ⟨rfl, rfl⟩
  · split
    · split <;> exact ⟨rfl, rfl⟩
    · split
      · split <;> exact ⟨rfl, rfl⟩
      · split <;> exact ⟨rfl, rfl⟩
theorem runsK_t (s : TSet) (k : KS) (m touch : Nat) : (runsK s k m touch).t = k.t := (runsC_tr _ m).1
theorem runsK_ran (s : TSet) (k : KS) (m touch : Nat) : (runsK s k m touch).ran = k.ran := (runsC_tr _ m).2
end Go.Proofs.Ytlaflbepidkmnaa
/- Kch -/
namespace Go.Proofs.Ytlaflbepidkmnaa
open Go.RowKit
set_option linter.unusedSimpArgs false
set_option linter.unusedVariables false
set_option maxRecDepth 100000

theorem okL_each' : ∀ (ts : List Tsk) (i : Nat) (seen : List (List UInt8)), okL ts i seen = true → ∀ k (h : k < ts.length), isB ts[k] (i + k : Nat) = true
  | [], _, _, _, k, h => by simp at h
  | t :: ts, i, seen, ho, k, h => by
    simp only [okL, Bool.and_eq_true] at ho
    cases k with
    | zero => exact ho.1
    | succ k =>
      have := okL_each' ts (i + 1) _ ho.2.2 k (by simpa using h)
      rw [show i + 1 + k = i + (k + 1) by omega] at this
      simpa using this
theorem u64_of' {x : Int} (h : (Lit.int .u64 x).wf = true) : 0 ≤ x ∧ x < 18446744073709551616 := by
  have h' : (decide ((0 : Int) ≤ x) && decide (x ≤ 18446744073709551615)) = true := h
  simp only [Bool.and_eq_true, decide_eq_true_eq] at h'
  omega
/-- a set that a kernel may be of: more than KH -/
structure KH2 (s : TSet) : Prop where
  kh : KH s
  u : ∀ i, i < s.tasks.length → 0 ≤ (s.tk i).ucb ∧ 0 ≤ (s.tk i).ecb
  q : ∀ i, i < s.tasks.length → 0 ≤ (s.tk i).q ∧ (s.tk i).q ≤ 10000
theorem tk_in (s : TSet) {k : Nat} (h : k < s.tasks.length) : s.tk k = s.tasks[k] := by
  unfold TSet.tk
  exact getD_at h _
theorem kh_of {s : TSet} (h : allB s = true) (hf : s.fit) : KH2 s := by
  simp only [allB, Bool.and_eq_true, decide_eq_true_eq] at h
  obtain ⟨⟨h1, h2⟩, h3, h4, h5⟩ := h
  have hE : ∀ k (hk : k < s.tasks.length), isB s.tasks[k] k = true := fun k hk => by
    have := okL_each' s.tasks 0 [] h5 k hk
    rwa [Nat.zero_add] at this
  have hB : ∀ k (hk : k < s.tasks.length), (0 ≤ (s.tasks[k]).ucb ∧ (s.tasks[k]).ucb < 18446744073709551616) ∧ 0 ≤ (s.tasks[k]).ecb ∧ (s.tasks[k]).ecb < 18446744073709551616 := fun k hk => by
    obtain ⟨_, _, hk⟩ := hf.2.2 _ (List.getElem_mem hk)
    obtain ⟨_, _, _, _, _, h6, h7, _⟩ := hk
    exact ⟨u64_of' h7, u64_of' h6⟩
  have hF : ∀ k (hk : k < s.tasks.length), (regsB (s.tasks[k]).regs = true ∧ workL (s.tasks[k]).regs ≤ (s.tasks[k]).D) ∧ ((s.tasks[k]).D ≤ (s.tasks[k]).T ∧ (s.tasks[k]).T ≤ 10000) ∧ modeB s.tasks[k] k = true := fun k hk => by
    have := hE k hk
    simp only [isB, Bool.and_eq_true, decide_eq_true_eq] at this
    obtain ⟨_, h1, h2, h3, ⟨_, h4⟩, h5, _⟩ := this
    exact ⟨⟨h1, h2⟩, ⟨h3, h4⟩, h5⟩
  have hM : ∀ k (hk : k < s.tasks.length), ((s.tasks[k]).mode = 0 ∧ (s.tasks[k]).q = 0) ∨ ((s.tasks[k]).mode = 1 ∧ 0 ≤ (s.tasks[k]).q ∧ (s.tasks[k]).q ≤ 10000) ∨ ((s.tasks[k]).mode = 2 ∧ (s.tasks[k]).q = 0 ∧ 0 ≤ (s.tasks[k]).theta ∧ (s.tasks[k]).theta ≤ k) := fun k hk => by
    have h := (hF k hk).2.2
    unfold modeB at h
    generalize s.tasks[k] = t at h
    by_cases m0 : t.mode = 0
    · simp [m0] at h; exact .inl ⟨m0, h.1⟩
    · by_cases m1 : t.mode = 1
      · simp [m1] at h; exact .inr (.inl ⟨m1, h.1.1, h.1.2⟩)
      · by_cases m2 : t.mode = 2
        · simp [m2] at h; exact .inr (.inr ⟨m2, h.1, h.2.1, h.2.2⟩)
        · rw [show (t.mode == 0) = false by simpa using m0, show (t.mode == 1) = false by simpa using m1, show (t.mode == 2) = false by simpa using m2] at h
          cases h
  refine ⟨⟨⟨h3, h4⟩, ⟨h1, h2⟩, fun i hi => ?_, fun i hi => ?_, fun i hi => ?_, fun i hi => ?_⟩, fun i hi => ?_, fun i hi => ?_⟩
  · rw [tk_in s hi]
    have h := (hF i hi).1.1
    simp only [regsB, Bool.and_eq_true, decide_eq_true_eq, List.all_eq_true] at h
    refine ⟨h.1, h.2.1, fun r hr => ?_⟩
    have := h.2.2 r hr
    simp only [regB, Bool.and_eq_true, decide_eq_true_eq] at this
    omega
  · rw [tk_in s hi]
    have h := hF i hi
    have hw := (work_pos h.1.1).1
    omega
  · rw [tk_in s hi]
    rcases hM i hi with h | h | h
    · exact .inl h.1
    · exact .inr (.inl h)
    · exact .inr (.inr ⟨h.1, h.2.2⟩)
  · rw [tk_in s hi]
    have := hB i hi
    omega
  · rw [tk_in s hi]
    have := hB i hi
    omega
  · rw [tk_in s hi]
    rcases hM i hi with h | h | h <;> omega
/-- who ran last, behind a tick -/
theorem runsK_link (s : TSet) (k : KS) (m touch : Nat) (hl : k.last = m) (hm : m < k.tab.length) (hst : (stAt k.tab m).start = true) :
    (runsK s k m touch).last = if (stAt (runsK s k m touch).tab m).start = true then (m : Int) else -1 := by
  unfold runsK
  dsimp only
  split
  · dsimp only
    rw [stAt_set hm, if_pos rfl, if_pos hst]
    exact hl
  · have ez : stAt (k.tab.set m St.zero) m = St.zero := by rw [stAt_set hm, if_pos rfl]
    have em : ∀ x : St, stAt (k.tab.set m x) m = x := fun x => by rw [stAt_set hm, if_pos rfl]
    have zz : (-1 : Int) = if (stAt (k.tab.set m St.zero) m).start = true then (m : Int) else -1 := by rw [ez]; rfl
    have mm : ∀ b, k.last = if (stAt (k.tab.set m { stAt k.tab m with mid := b }) m).start = true then (m : Int) else -1 := fun b => by
      rw [em]; dsimp only; rw [if_pos hst]; exact hl
    split
    · split
      · exact zz
      · exact zz
    · split
      · split
        · exact zz
        · exact zz
      · split
        · exact mm _
        · exact mm _
structure RunOk (s : TSet) (k : KS) : Prop where
  link : Link k
  lo : -1 ≤ k.ran
  hi : k.ran < s.tasks.length
theorem RunOk.init (s : TSet) : RunOk s (initK s) := by
  refine ⟨?_, Int.le_refl _, ?_⟩
  · unfold Link
    rw [if_neg (fun h => by have := h.1; unfold initK at this; dsimp only at this; omega)]
    rfl
  · show (-1 : Int) < _
    omega
theorem RunOk.step {s : TSet} (hs : KH s) {P : List Ev} {k : KS} (hI : KInv s P k) (h : RunOk s k) (x : Inp) : RunOk s (stepK s k x) := by
  have h1 := (hI.lb.late).arrive hs x
  have hk1 := Link.late (s := s) (show Link { k with evs := [] } from h.link)
  have hk2 := Link.arrive hs hI.lb.late hk1.1 (by rw [hk1.2]; exact h.hi) x
  unfold stepK
  dsimp only
  generalize arriveK s x (lateK s { k with evs := [] }) = k1 at h1 hk2
  rcases Int.lt_or_le (chooseS s k1.tab k1.last k1.t) 0 with hneg | hpos
  · have hc : chooseS s k1.tab k1.last k1.t = -1 ∧ k1.last = -1 := by
      rcases choose_spec s k1.tab k1.last k1.t with ⟨h4, h5⟩ | ⟨_, h5, h6⟩ | ⟨_, m, h5, _⟩
      · rw [h5] at hneg
        unfold heldS at h4
        rw [decide_eq_false (by omega)] at h4
        cases h4
      · refine ⟨h5, ?_⟩
        rcases h1.inv.curs with hl | ⟨a, b, c, _⟩
        · exact hl
        · rw [h6 _ (by rw [h1.inv.lt]; omega)] at c; cases c
      · omega
    rw [if_pos hc.1]
    refine ⟨?_, by show -1 ≤ chooseS _ _ _ _; omega, by show chooseS _ _ _ _ < _; omega⟩
    exact hc.2.trans (if_neg (fun h => by have h2 : (0 : Int) ≤ chooseS s k1.tab k1.last k1.t := h.1; omega)).symm
  · obtain ⟨m, hm⟩ := Int.eq_ofNat_of_zero_le hpos
    rw [hm, if_neg (by omega), Int.toNat_natCast]
    obtain ⟨a1, a2, a3, a4, a5, a6, a7, a8, a9⟩ := h1.turn hs hm
    refine ⟨?_, by show -1 ≤ (m : Int); omega, by show (m : Int) < _; omega⟩
    have := runsK_link s { turnK s k1 m with last := (m : Int) } m x.touch rfl (by show m < (turnK s k1 m).tab.length; rw [a1.lt]; exact a5) a7
    unfold Link
    dsimp only
    rw [Int.toNat_natCast, this]
    have h0 : (0 : Int) ≤ m := by omega
    simp only [h0, true_and]
/-- how many events a run has, at most -/
theorem runK_append (s : TSet) : ∀ (l : List Inp) (x : Inp) (k : KS), runK s (l ++ [x]) k = ((runK s l k).1 ++ (stepK s (runK s l k).2 x).evs, stepK s (runK s l k).2 x)
  | [], x, k => by simp [runK]
  | y :: l, x, k => by
    have := runK_append s l x (stepK s k y)
    simp only [List.cons_append, runK, this, List.append_assoc]
theorem fold_len (f : KS → Nat → KS) (hf : ∀ k i, (f k i).evs.length ≤ k.evs.length + 1) : ∀ (l : List Nat) (k : KS), (l.foldl f k).evs.length ≤ k.evs.length + l.length
  | [], k => by simp
  | i :: l, k => by
    have h1 := fold_len f hf l (f k i)
    have h2 := hf k i
    rw [List.foldl_cons, List.length_cons]
    omega
theorem tell_len (k : KS) (a b c : Int) : (k.tell a b c).evs.length = k.evs.length + 1 := by simp [KS.tell]
theorem late1_len (s : TSet) (k : KS) (i : Nat) : (late1 s k i).evs.length ≤ k.evs.length + 1 := by
  unfold late1
  split
  · rw [tell_len]; exact Nat.le_refl _
  · omega
theorem arrive1_len (s : TSet) (x : Inp) (k : KS) (i : Nat) : (arrive1 s x k i).evs.length ≤ k.evs.length + 1 := by
  unfold arrive1
  split
  · omega
  · split
    · rw [tell_len]; exact Nat.le_refl _
    · split
      · rw [tell_len]; exact Nat.le_refl _
      · unfold admitK
        rw [tell_len]; exact Nat.le_refl _
theorem runsC_len (k : KS) (m : Nat) : (runsC k m).evs.length ≤ k.evs.length + 2 := by
  unfold runsC
  dsimp only
  split
  · dsimp only; omega
  · split <;> split <;> first | (simp only [tell_len]; done) | (simp only [tell_len]; omega) | (split <;> first | (simp only [tell_len]; done) | (simp only [tell_len]; omega) | (dsimp only; omega))
theorem stepK_few {s : TSet} (hs : s.tasks.length ≤ 8) (k : KS) (x : Inp) : (stepK s k x).evs.length ≤ 100 := by
  have h1 : (lateK s { k with evs := [] }).evs.length ≤ 8 := by
    have := fold_len (late1 s) (late1_len s) (List.range s.tasks.length) { k with evs := [] }
    unfold lateK
    simp only [List.length_nil, List.length_range] at this
    omega
  have h2 : (arriveK s x (lateK s { k with evs := [] })).evs.length ≤ 16 := by
    have := fold_len (arrive1 s x) (arrive1_len s x) (List.range s.tasks.length) (lateK s { k with evs := [] })
    unfold arriveK
    rw [List.length_range] at this
    omega
  unfold stepK
  dsimp only
  generalize arriveK s x (lateK s { k with evs := [] }) = k1 at h2
  split
  · show (k1.tell _ _ _).evs.length ≤ _
    rw [tell_len]
    omega
  · show (runsK s _ _ _).evs.length ≤ _
    have h3 := turnK_evs s k1 (chooseS s k1.tab k1.last k1.t).toNat
    refine Nat.le_trans (runsC_len _ _) ?_
    show (turnK s k1 _).evs.length + 2 ≤ _
    omega
theorem runK_few {s : TSet} (hs : s.tasks.length ≤ 8) : ∀ (l : List Inp) (k : KS), (runK s l k).1.length ≤ 100 * l.length
  | [], k => by simp [runK]
  | x :: l, k => by
    have h1 := runK_few hs l (stepK s k x)
    have h2 := stepK_few hs k x
    simp only [runK, List.length_append, List.length_cons]
    omega
/-- the state behind the first ticks -/
structure RunAt (s : TSet) (l : List Inp) (m : Nat) (k : KS) (P : List Ev) : Prop where
  inv : KInv s P k
  ok : RunOk s k
  t : k.t = m
  eq : runK s (l.take m) (initK s) = (P, k)
theorem RunAt.zero {s : TSet} (hs : KH s) (l : List Inp) : RunAt s l 0 (initK s) [] := ⟨KInv.init hs, RunOk.init s, rfl, rfl⟩
theorem RunAt.next {s : TSet} (hs : KH s) {l : List Inp} {m : Nat} {k : KS} {P : List Ev} (h : RunAt s l m k P) (hm : m < l.length) : RunAt s l (m + 1) (stepK s k l[m]) (P ++ (stepK s k l[m]).evs) := by
  have h1 := h.inv.step hs l[m]
  refine ⟨h1.1, h.ok.step hs h.inv _, by rw [h1.2, h.t]; push_cast; rfl, ?_⟩
  rw [List.take_succ_eq_append_getElem hm, runK_append, h.eq]
theorem RunAt.few {s : TSet} (hs : KH s) {l : List Inp} {m : Nat} {k : KS} {P : List Ev} (h : RunAt s l m k P) : P.length ≤ 100 * l.length := by
  have h1 := runK_few hs.len.2 (l.take m) (initK s)
  rw [h.eq, List.length_take] at h1
  have := Nat.min_le_right m l.length
  dsimp only at h1
  omega
theorem RunAt.all {s : TSet} {l : List Inp} {k : KS} {P : List Ev} (h : RunAt s l l.length k P) : eventsK s l = P := by
  have := h.eq
  rw [List.take_length] at this
  unfold eventsK
  rw [this]
end Go.Proofs.Ytlaflbepidkmnaa
/- EvO -/
namespace Go.Proofs.Ytlaflbepidkmnaa
open Go.RowKit
attribute [local go_sem] setCell_twice ByteArray.toList_eq str_list Ext.alloc Ext.drew
set_option linter.unusedSimpArgs false
set_option linter.unusedVariables false
set_option maxRecDepth 100000
set_option maxHeartbeats 1600000
attribute [local irreducible] Calls

/-- an event's cells -/
def EvR (w : World) (b o : Nat) (e : Ev) : Prop := w.cell? ⟨b, o, none⟩ = some (.int .i64 e.tick) ∧ w.cell? ⟨b, o + 1, none⟩ = some (.int .i64 e.kind) ∧ w.cell? ⟨b, o + 2, none⟩ = some (.int .i64 e.task) ∧ w.cell? ⟨b, o + 3, none⟩ = some (.int .i64 e.n)
theorem EvR.ext {w w' : World} {b o : Nat} {e : Ev} (h : EvR w b o e) (hx : Ext w w') : EvR w' b o e := ⟨hx.cell h.1, hx.cell h.2.1, hx.cell h.2.2.1, hx.cell h.2.2.2⟩
/-- v reads as the events L -/
def Evs (w : World) (v : Value) (L : List Ev) : Prop := SlR EvR 4 Any w v L
theorem Evs.ext {w w' : World} {v : Value} {L : List Ev} (h : Evs w v L) (hx : Ext w w') : Evs w' v L := SlR.to h fun _ _ _ h => h.ext hx
theorem Evs.form {w : World} {v : Value} {L : List Ev} (h : Evs w v L) : ∃ A c, v = .slice A L.length c ∧ L.length ≤ c ∧ c ≤ maxLen := SlR.form h
theorem Evs.at {w : World} {A : Option Addr} {n c : Nat} {L : List Ev} (h : Evs w (.slice A n c) L) {k : Nat} (hk : k < L.length) : ∃ b o, A = some ⟨b, o, none⟩ ∧ ∀ w', Ext w w' →
    w'.cell? ⟨b, o + k * 4, none⟩ = some (.int .i64 (evAt L k).tick) ∧ w'.cell? ⟨b, o + k * 4 + 1, none⟩ = some (.int .i64 (evAt L k).kind) ∧ w'.cell? ⟨b, o + k * 4 + 2, none⟩ = some (.int .i64 (evAt L k).task) ∧ w'.cell? ⟨b, o + k * 4 + 3, none⟩ = some (.int .i64 (evAt L k).n) := by
  obtain ⟨b, o, e, hx⟩ := SlR.at h hk
  rw [evAt_in hk]
  exact ⟨b, o, e, fun w' hw => hx.ext hw⟩
theorem OwnL.evs {w : World} {base : Nat} {v : Value} {L : List Ev} (h : OwnL encEv w base 60 4 v L) : Evs w v L :=
  OwnL.read h encEv_len (fun _ _ _ => trivial) (fun _ _ _ _ hx => ⟨hx 0 _ rfl, hx 1 _ rfl, hx 2 _ rfl, hx 3 _ rfl⟩)
def evV (e : Ev) : Value := .agg #[.int .i64 e.tick, .int .i64 e.kind, .int .i64 e.task, .int .i64 e.n]
theorem evTask_any (e0 e1 e2 e3 : Int) (w : World) : Calls Try.prog 45 #[.agg #[.int .i64 e0, .int .i64 e1, .int .i64 e2, .int .i64 e3]] w fun r w' => r = .returned (.bool (⟨e0, e1, e2, e3⟩ : Ev).isTask) ∧ Ext w w' := by
  have hE : (⟨e0, e1, e2, e3⟩ : Ev).isTask = (decide (0 ≤ e2) && decide (e2 < 8)) := rfl
  rw [hE]
  cases d : decide (0 ≤ e2) with
  | false =>
    go_enter Try.func45, Try.ntmps45
    go_wp2_with (fail)
    go_ret
    exact ⟨rfl, (Ext.refl w).alloc _⟩
  | true =>
    go_enter Try.func45, Try.ntmps45
    go_wp2_with (fail)
    go_ret
    exact ⟨rfl, (Ext.refl w).alloc _⟩
theorem last_any (va : Value) (L : List Ev) (k0 : Nat) (w : World) (hk0 : k0 < L.length) (ha : Evs w va L) :
    Calls Try.prog 23 #[va, .int .i64 k0] w fun e w' => e = .returned (.int .i64 (lastL (L.take k0) (evAt L k0).task)) ∧ Ext w w' := by
  obtain ⟨A, c, rfl, hc1, hc2⟩ := ha.form
  unfold maxLen at hc2
  have HA := Lib.hid ha
  have hw0 : IntKind.i64.wrap ((k0 : Int) - 1) = (k0 : Int) - 1 := by rw [IntKind.wrap_i64]; omega
  have hw1 : wrap64 ((k0 : Int) - 1) = (k0 : Int) - 1 := by unfold wrap64; omega
  obtain ⟨m, hm⟩ : ∃ m, lastL (L.take k0) (evAt L k0).task = m := ⟨_, rfl⟩
  rw [hm]
  have HM := Lib.hid hm
  clear ha hm
  go_enter Try.func23, Try.ntmps23
  go_wp2_with (fail)
  go_loopw [5] (fun i wr => ∃ k : Nat, k ≤ k0 ∧ i = .int .i64 ((k : Int) - 1) ∧ Hid (lastL (L.take k) (evAt L k0).task = m) ∧ Ext w wr) (fun i _ => (intOf i + 1).toNat)
  case atStart => exact ⟨k0, Nat.le_refl _, rfl, Lib.hid HM.out, Ext.refl w⟩
  case round =>
    obtain ⟨k, hk, rfl, ht, hX⟩ := hrel
    clear hw0 hw1
    rcases Nat.eq_zero_or_pos k with rfl | hpos
    · obtain rfl : (0 : Int) = m := ht.out
      go_wp2_with (fail)
      go_ret
      exact ⟨rfl, hX⟩
    · obtain ⟨j, rfl⟩ : ∃ j, k = j + 1 := ⟨k - 1, by omega⟩
      rw [show (((j + 1 : Nat) : Int) - 1) = (j : Int) by omega]
      have hjl : j < L.length := by omega
      obtain ⟨b, o, rfl, hx⟩ := HA.out.at hjl
      obtain ⟨b', o', e', hy⟩ := HA.out.at hk0
      obtain ⟨rfl, rfl⟩ : b = b' ∧ o = o' := by simpa using e'
      obtain ⟨x0, x1, x2, x3⟩ := hx wr hX
      obtain ⟨y0, y1, y2, y3⟩ := hy wr hX
      have hw0 : IntKind.i64.wrap ((j : Int) - 1) = (j : Int) - 1 := by rw [IntKind.wrap_i64]; omega
      have hw1 : wrap64 ((j : Int) - 1) = (j : Int) - 1 := by unfold wrap64; omega
      have hs := last_snoc (L.take j) (evAt L j) (evAt L k0).task
      rw [evAt_in hjl, ← List.take_succ_eq_append_getElem hjl, ← evAt_in hjl, ht.out] at hs
      have HS := Lib.hid hs
      clear hx hy e' y0 y1 y3 x0 x3 hs ht HM
      generalize hp : evAt L j = p at *
      generalize (evAt L k0).task = t at *
      clear hp
      obtain ⟨p0, p1, p2, p3⟩ := p
      dsimp only at x1 x2 HS
      cases d1 : (p2 == t) with
      | false =>
        have hne : p2 ≠ t := by simpa using d1
        have HN := Lib.hid (show lastL (L.take j) t = m by rw [HS.out, if_neg (fun h => hne h.1)])
        clear hne
        go_wp2_with (fail)
        go_quiet (fail)
        go_wp2_with (fail)
        exact ⟨⟨j, by omega, rfl, HN, hX.drewN _⟩, by first | (simp [intOf]; done) | (simp [intOf]; omega)⟩
      | true =>
        have he : p2 = t := by simpa using d1
        cases d2 : (p1 != 3) with
        | false =>
          have h3 : p1 = 3 := by simpa using d2
          have HN := Lib.hid (show lastL (L.take j) t = m by rw [HS.out, if_neg (fun h => h.2.2 h3)])
          clear he h3
          go_wp2_with (fail)
          go_quiet (fail)
          go_wp2_with (fail)
          exact ⟨⟨j, by omega, rfl, HN, hX.drewN _⟩, by first | (simp [intOf]; done) | (simp [intOf]; omega)⟩
        | true =>
          have h3 : p1 ≠ 3 := by simpa using d2
          cases d3 : (p1 != 2) with
          | false =>
            have h2 : p1 = 2 := by simpa using d3
            have HN := Lib.hid (show lastL (L.take j) t = m by rw [HS.out, if_neg (fun h => h.2.1 h2)])
            clear he h3 h2
            go_wp2_with (fail)
            go_quiet (fail)
            go_wp2_with (fail)
            exact ⟨⟨j, by omega, rfl, HN, hX.drewN _⟩, by first | (simp [intOf]; done) | (simp [intOf]; omega)⟩
          | true =>
            have h2 : p1 ≠ 2 := by simpa using d3
            have HN := Lib.hid (show m = p1 by rw [HS.out, if_pos ⟨he, h2, h3⟩])
            clear he h3 h2
            go_wp2_with (fail)
            go_quiet (fail)
            go_wp2_with (fail)
            go_ret
            exact ⟨by rw [HN.out]; rfl, hX.drewN _⟩
end Go.Proofs.Ytlaflbepidkmnaa
/- Rows of events: the oldest job; is it fair? -/
namespace Go.Proofs.Ytlaflbepidkmnaa
open Go.RowKit
attribute [local go_sem] setCell_twice ByteArray.toList_eq str_list Ext.alloc Ext.drew
set_option linter.unusedSimpArgs false
set_option linter.unusedVariables false
set_option maxRecDepth 100000
set_option maxHeartbeats 1600000
attribute [local irreducible] Calls

/-- an array of eight numbers -/
structure Arr8 (w : World) (t : TypeId) (g : Nat) (xs : List Int) : Prop where
  box : Blk w g (xs.map (Value.int .i64)).toArray t
  len : xs.length = 8
section
variable {w w' : World} {t : TypeId} {g : Nat} {xs : List Int}
theorem Arr8.ext (h : Arr8 w t g xs) (hx : Ext w w') : Arr8 w' t g xs := ⟨h.box.ext hx, h.len⟩
theorem Arr8.at (h : Arr8 w t g xs) {i : Nat} (hi : i < 8) : w.cell? ⟨g, i, none⟩ = some (.int .i64 (xs.getD i 0)) := by
  have hi2 : i < xs.length := by rw [h.len]; exact hi
  rw [h.box.cell, List.getElem?_toArray, List.getElem?_map, List.getElem?_eq_getElem hi2, getD_at hi2]
  rfl
theorem Arr8.set (h : Arr8 w t g xs) (i : Nat) (x : Int) : Arr8 (w.setCell ⟨g, i, none⟩ (.int .i64 x)) t g (xs.set i x) := by
  have := h.box.set i (.int .i64 x)
  refine ⟨?_, by rw [List.length_set]; exact h.len⟩
  rw [List.map_set]
  simpa using this
theorem list8_ext {xs ys : List Int} (h1 : xs.length = 8) (h2 : ys.length = 8) (h : ∀ i, i < 8 → xs.getD i 0 = ys.getD i 0) : xs = ys := by
  refine List.ext_getElem (by omega) fun i a b => ?_
  have := h i (by omega)
  rwa [getD_at a, getD_at b] at this
end
/-- when the jobs that are pending were let in, by the first j events -/
def arrO (L : List Ev) (j : Nat) : List Int := (List.range 8).map fun (i : Nat) => oldV (sinceL (L.take j) i)
theorem arrO_len (L : List Ev) (j : Nat) : (arrO L j).length = 8 := by simp [arrO]
theorem arrO_at (L : List Ev) (j : Nat) {i : Nat} (hi : i < 8) : (arrO L j).getD i 0 = oldV (sinceL (L.take j) i) := by
  rw [getD_at (by rw [arrO_len]; exact hi)]
  simp [arrO]
theorem arrO_zero (L : List Ev) : arrO L 0 = List.replicate 8 (-1) := rfl
theorem arrO_step {L : List Ev} {j : Nat} (hj : j < L.length) : arrO L (j + 1) = if (evAt L j).isTask = false then arrO L j else if (evAt L j).kind = 1 then (arrO L j).set (evAt L j).task.toNat (evAt L j).tick else if (evAt L j).kind = 8 ∨ (evAt L j).kind = 9 then (arrO L j).set (evAt L j).task.toNat (-1) else arrO L j := by
  have hs : ∀ i : Int, sinceL (L.take (j + 1)) i = if (evAt L j).task = i then (if (evAt L j).kind = 1 then some (evAt L j).tick else if (evAt L j).kind = 8 ∨ (evAt L j).kind = 9 then none else sinceL (L.take j) i) else sinceL (L.take j) i := fun i => by
    rw [List.take_succ_eq_append_getElem hj, since_snoc, ← evAt_in hj]
  generalize evAt L j = e at hs
  refine list8_ext (arrO_len _ _) ?_ fun i hi => ?_
  · split
    · exact arrO_len _ _
    · split
      · rw [List.length_set]; exact arrO_len _ _
      · split
        · rw [List.length_set]; exact arrO_len _ _
        · exact arrO_len _ _
  · rw [arrO_at L _ hi, hs]
    cases ht : e.isTask with
    | false =>
      rw [if_pos rfl, arrO_at L _ hi, if_neg]
      intro h
      unfold Ev.isTask at ht
      rw [decide_eq_true (by omega), decide_eq_true (by omega)] at ht
      cases ht
    | true =>
      rw [if_neg (show ¬ (true = false) by decide)]
      unfold Ev.isTask at ht
      simp only [Bool.and_eq_true, decide_eq_true_eq] at ht
      by_cases e1 : e.task = i
      · have e2 : e.task.toNat = i := by omega
        rw [if_pos e1, e2]
        by_cases k1 : e.kind = 1
        · rw [if_pos k1, if_pos k1, getD_set (by rw [arrO_len]; exact hi), if_pos rfl]
          rfl
        · rw [if_neg k1, if_neg k1]
          by_cases k2 : e.kind = 8 ∨ e.kind = 9
          · rw [if_pos k2, if_pos k2, getD_set (by rw [arrO_len]; exact hi), if_pos rfl]
            rfl
          · rw [if_neg k2, if_neg k2, arrO_at L _ hi]
      · rw [if_neg e1]
        have e2 : e.task.toNat ≠ i := by omega
        have hset : ∀ x : Int, ((arrO L j).set e.task.toNat x).getD i 0 = oldV (sinceL (L.take j) i) := fun x => by
          rw [getD_set (by rw [arrO_len]; omega), if_neg e2, arrO_at L _ hi]
        split
        · rw [hset]
        · split
          · rw [hset]
          · rw [arrO_at L _ hi]
theorem oldE_step {L : List Ev} (h0 : ∀ e ∈ L, 0 ≤ e.tick) (k : Nat) : oldV (oldE L (k + 1)) = if 0 ≤ oldV (sinceL L k) ∧ (oldV (oldE L k) < 0 ∨ oldV (sinceL L k) < oldV (oldE L k)) then oldV (sinceL L k) else oldV (oldE L k) := by
  have hs : oldE L (k + 1) = match sinceL L k with
    | none => oldE L k
    | some b => match oldE L k with
      | none => some b
      | some a => if b < a then some b else some a := by
    unfold oldE
    rw [List.range_succ, List.map_append]
    exact minO_snoc _ _
  have hn := since_nn h0 (k : Int)
  have ho := fun a => old_nn (i := k) (a := a) h0
  cases h1 : sinceL L k with
  | none =>
    rw [h1] at hs
    rw [hs]
    rw [if_neg]
    intro h
    have := h.1
    simp only [oldV] at this
    omega
  | some b =>
    rw [h1] at hs
    have hb := hn b h1
    cases h2 : oldE L k with
    | none =>
      rw [h2] at hs
      rw [hs]
      show b = if 0 ≤ b ∧ ((-1 : Int) < 0 ∨ b < -1) then b else -1
      rw [if_pos ⟨hb, .inl (by omega)⟩]
    | some a =>
      rw [h2] at hs
      have ha := ho a h2
      rw [hs]
      show oldV (if b < a then some b else some a) = if 0 ≤ b ∧ (a < 0 ∨ b < a) then b else a
      by_cases hlt : b < a
      · rw [if_pos hlt, if_pos ⟨hb, .inr hlt⟩]; rfl
      · rw [if_neg hlt, if_neg (fun h => by omega)]; rfl
theorem oldest_any (va : Value) (L : List Ev) (k0 m : Nat) (w : World) (hk0 : k0 ≤ L.length) (hm : m ≤ 8) (h0 : ∀ e ∈ L, 0 ≤ e.tick) (ha : Evs w va L) :
    Calls Try.prog 24 #[va, .int .i64 k0, .int .i64 m] w fun e w' => e = .returned (.int .i64 (oldV (oldE (L.take k0) m))) ∧ Ext w w' := by
  obtain ⟨A, c, rfl, hc1, hc2⟩ := ha.form
  unfold maxLen at hc2
  have HA := Lib.hid ha
  have H0 := Lib.hid (fun e (he : e ∈ L.take k0) => h0 e (List.mem_of_mem_take he))
  clear ha h0
  go_enter Try.func24, Try.ntmps24
  go_wp2_with (fail)
  have hZ : Arr8 (w.alloc (.cells #[.int .i64 0, .int .i64 0, .int .i64 0, .int .i64 0, .int .i64 0, .int .i64 0, .int .i64 0, .int .i64 0] 101)) 101 w.heap.size (List.replicate 8 0) := ⟨Blk.new _ _ _, rfl⟩
  have hX := (Ext.refl w).alloc (.cells #[.int .i64 0, .int .i64 0, .int .i64 0, .int .i64 0, .int .i64 0, .int .i64 0, .int .i64 0, .int .i64 0] 101)
  go_loopw [8] (fun i wr => ∃ (k : Nat) (xs : List Int), k ≤ 8 ∧ i = .int .i64 k ∧ Arr8 wr 101 w.heap.size xs ∧ Hid (∀ j, j < k → xs.getD j 0 = -1) ∧ Ext w wr) (fun i _ => 8 - (intOf i).toNat)
  case atStart => exact ⟨0, _, by omega, rfl, hZ, Lib.hid (fun j hj => by omega), hX⟩
  case round =>
    obtain ⟨k, xs, hk, rfl, hA, hall, hX2⟩ := hrel
    clear hZ hX
    by_cases hlt : k < 8
    · have hck := hA.at hlt
      have hfk := hA.box.free k
      go_wp2_with (fail)
      exact ⟨⟨k + 1, _, hlt, rfl, hA.set k (-1), Lib.hid (fun j hj => by
        rw [getD_set (by rw [hA.len]; exact hlt)]
        split
        · rfl
        · exact hall.out j (by omega)), hX2.set (Nat.le_refl _) _⟩, by simp [intOf]; omega⟩
    · have hke : k = 8 := by omega
      have hxs : xs = arrO L 0 := by
        rw [arrO_zero]
        refine list8_ext hA.len rfl fun i hi => ?_
        have e : (List.replicate 8 (-1 : Int)).getD i 0 = -1 := by
          simp only [List.getD, List.getElem?_replicate]
          rw [if_pos hi]
          rfl
        rw [hall.out i (by omega), e]
      subst hxs
      have HA0 := Lib.hid hA
      have HX2 := Lib.hid hX2
      clear hA hX2 hall hke
      go_wp2_with (fail)
      go_loopw [9] (fun i wr => ∃ (k : Nat), k ≤ k0 ∧ i = .int .i64 k ∧ Arr8 wr 101 w.heap.size (arrO L k) ∧ Ext w wr) (fun i _ => k0 - (intOf i).toNat)
      case atStart => exact ⟨0, by omega, rfl, HA0.out, HX2.out⟩
      case round =>
        obtain ⟨k, hk, rfl, hA, hX⟩ := hrel
        clear HA0 HX2
        by_cases hlt : k < k0
        · have hkl : k < L.length := by omega
          obtain ⟨b, o, rfl, hx⟩ := HA.out.at hkl
          have hst := arrO_step hkl
          generalize hp : evAt L k = p at *
          obtain ⟨p0, p1, p2, p3⟩ := p
          dsimp only at hx hst
          have x0 := fun w' (h : Ext w w') => (hx w' h).1
          have x1 := fun w' (h : Ext w w') => (hx w' h).2.1
          have x2 := fun w' (h : Ext w w') => (hx w' h).2.2.1
          have x3 := fun w' (h : Ext w w') => (hx w' h).2.2.2
          have y0 := x0 wr hX
          have y1 := x1 wr hX
          have y2 := x2 wr hX
          have y3 := x3 wr hX
          have HS := Lib.hid hst
          have HA1 := Lib.hid hA
          clear hx hp hst hA
          go_wp2_with (fail)
          refine (evTask_any p0 p1 p2 p3 wr).mono ?_
          rintro e w2 ⟨rfl, hX2⟩
          have hX3 := hX.trans hX2
          have z1 := x1 w2 hX3
          have HA2 := Lib.hid (HA1.out.ext hX2)
          clear y0 y1 y2 y3 HA1
          cases ht : (⟨p0, p1, p2, p3⟩ : Ev).isTask with
          | false =>
            have HE := Lib.hid (show arrO L (k + 1) = arrO L k by rw [HS.out, if_pos ht])
            go_wp2_with (fail)
            exact ⟨⟨k + 1, hlt, rfl, by rw [HE.out]; exact HA2.out, hX3⟩, by simp [intOf]; omega⟩
          | true =>
            have hts := ht
            unfold Ev.isTask at hts
            simp only [Bool.and_eq_true, decide_eq_true_eq] at hts
            obtain ⟨n, hn⟩ := Int.eq_ofNat_of_zero_le hts.1
            subst hn
            have hn8 : n < 8 := by omega
            by_cases k1 : p1 = 1
            · subst k1
              have HE := Lib.hid (show arrO L (k + 1) = (arrO L k).set n p0 by rw [HS.out, if_neg (by simp [ht]), if_pos rfl]; rfl)
              have hn8i : (n : Int) < 8 := by omega
              clear ht hts
              go_upto_region 12 with (fail)
              refine wp_region_mixZ (T := [11]) (z := 11) (S := Ext w) (W := w2) (Ext.mono w) (by kernel_rfl) (by kernel_rfl) (by kernel_rfl) (Ext.refl w2).drew hX3 (fun _ _ h => h) (fun K hK => ?_)
              (repeat (first | (refine hX_skip ?_ ?_; (· rfl)) | (apply hX_and; (· rfl); (· rfl); (· rfl); (· rfl); (· rfl); simp only [Act.put, List.setIfInBounds_toArray, List.set_cons_zero, List.set_cons_succ]) | (apply hX_or; (· rfl); (· rfl); (· rfl); (· rfl); (· rfl); simp only [Act.put, List.setIfInBounds_toArray, List.set_cons_zero, List.set_cons_succ]) | (apply hX_off; (· rfl); (· rfl); (· rfl); simp only [Act.put, List.setIfInBounds_toArray, List.set_cons_zero, List.set_cons_succ]) | (apply hX_val; (· rfl); (· intro w hS; go_simp; with_reducible rfl); (· rfl); simp only [Act.put, List.setIfInBounds_toArray, List.set_cons_zero, List.set_cons_succ]) | (apply hX_call; (· rfl); (· rfl); (· intro w hS; go_simp; exact ⟨rfl, rfl⟩); (· intro w hS; fail); simp only [Act.put, List.setIfInBounds_toArray, List.set_cons_zero, List.set_cons_succ]) | (apply hX_if; (· rfl); (· rfl); (· rfl); (· intro hif w hS; go_simp; with_reducible rfl); simp only [Act.put, List.setIfInBounds_toArray, List.set_cons_zero, List.set_cons_succ]) | (apply hX_ifcall; (· rfl); (· rfl); (· rfl); (· intro hif w hS; go_simp; exact ⟨rfl, rfl⟩); (· intro hif w hS; fail); simp only [Act.put, List.setIfInBounds_toArray, List.set_cons_zero, List.set_cons_succ]))); refine hX_nil ?_
              refine hK _ ?_
              clear hK K
              refine wpZ_last (by kernel_rfl) rfl (by simp [Region.wanted, yielded]) ?_
              intro w4 hx4 K hK
              have hA4 := HA2.out.ext hx4
              have hc4 := hA4.at hn8
              have hf4 := hA4.box.free n
              go_simp
              refine hK _ _ ?_
              clear hK K hc4 hf4
              refine wpZ_done (by kernel_rfl) (fun W hX5 => ?_) _
              have hA5 := Lib.hid ((hA4.set n p0).ext hX5)
              have hX6 := ((hX3.trans hx4).set (Nat.le_refl _) (i := n) (.int .i64 p0)).trans hX5
              clear hA4 hX5 hx4
              go_wp2_with (fail)
              exact ⟨⟨k + 1, hlt, rfl, by rw [HE.out]; exact hA5.out, hX6⟩, by simp [intOf]; omega⟩
            · have d1 : (p1 == 1) = false := by simpa using k1
              by_cases k2 : p1 = 8 ∨ p1 = 9
              · have HE := Lib.hid (show arrO L (k + 1) = (arrO L k).set n (-1) by rw [HS.out, if_neg (by simp [ht]), if_neg k1, if_pos k2]; rfl)
                have z2 := x2 w2 hX3
                have hc4 := HA2.out.at hn8
                have hf4 := HA2.out.box.free n
                clear ht hts
                rcases k2 with rfl | rfl
                · go_wp2_with (fail)
                  exact ⟨⟨k + 1, hlt, rfl, by rw [HE.out]; exact HA2.out.set n (-1), hX3.set (Nat.le_refl _) _⟩, by simp [intOf]; omega⟩
                · go_wp2_with (fail)
                  exact ⟨⟨k + 1, hlt, rfl, by rw [HE.out]; exact HA2.out.set n (-1), hX3.set (Nat.le_refl _) _⟩, by simp [intOf]; omega⟩
              · have d8 : (p1 == 8) = false := by rw [beq_eq_false_iff_ne]; omega
                have d9 : (p1 == 9) = false := by rw [beq_eq_false_iff_ne]; omega
                have HE := Lib.hid (show arrO L (k + 1) = arrO L k by rw [HS.out, if_neg (by simp [ht]), if_neg k1, if_neg k2])
                clear ht hts
                go_wp2_with (fail)
                exact ⟨⟨k + 1, hlt, rfl, by rw [HE.out]; exact HA2.out, hX3⟩, by simp [intOf]; omega⟩
        · have hke : k = k0 := by omega
          subst hke
          have HAk := Lib.hid hA
          have HXk := Lib.hid hX
          clear hA hX
          go_wp2_with (fail)
          go_loopw [10, 11] (fun a i wr => ∃ (j : Nat), j ≤ m ∧ i = .int .i64 j ∧ a = .int .i64 (oldV (oldE (L.take k) j)) ∧ Arr8 wr 101 w.heap.size (arrO L k) ∧ Ext w wr) (fun _ i _ => m - (intOf i).toNat)
          case atStart => exact ⟨0, by omega, rfl, rfl, HAk.out, HXk.out⟩
          case round =>
            obtain ⟨j, hj, rfl, rfl, hA, hX⟩ := hrel
            clear HAk HXk
            by_cases hltj : j < m
            · have hcj := hA.at (show j < 8 by omega)
              rw [arrO_at L k (by omega)] at hcj
              have hst := oldE_step H0.out j
              have HS := Lib.hid hst
              have HA3 := Lib.hid hA
              clear hst hA
              generalize oldV (sinceL (L.take k) j) = x at *
              generalize oldV (oldE (L.take k) j) = y at *
              cases dx : decide (0 ≤ x) with
              | false =>
                have HE := Lib.hid (show oldV (oldE (L.take k) (j + 1)) = y by rw [HS.out, if_neg (fun h => of_decide_eq_false dx h.1)])
                go_wp2_with (fail)
                exact ⟨⟨j + 1, hltj, rfl, by rw [HE.out], HA3.out, hX⟩, by simp [intOf]; omega⟩
              | true =>
                cases dy : decide (y < 0) with
                | true =>
                  have HE := Lib.hid (show oldV (oldE (L.take k) (j + 1)) = x by rw [HS.out, if_pos ⟨of_decide_eq_true dx, .inl (of_decide_eq_true dy)⟩])
                  go_wp2_with (fail)
                  exact ⟨⟨j + 1, hltj, rfl, by rw [HE.out], HA3.out, hX⟩, by simp [intOf]; omega⟩
                | false =>
                  cases dz : decide (x < y) with
                  | true =>
                    have HE := Lib.hid (show oldV (oldE (L.take k) (j + 1)) = x by rw [HS.out, if_pos ⟨of_decide_eq_true dx, .inr (of_decide_eq_true dz)⟩])
                    go_wp2_with (fail)
                    exact ⟨⟨j + 1, hltj, rfl, by rw [HE.out], HA3.out, hX⟩, by simp [intOf]; omega⟩
                  | false =>
                    have HE := Lib.hid (show oldV (oldE (L.take k) (j + 1)) = y by rw [HS.out, if_neg (fun h => h.2.elim (of_decide_eq_false dy) (of_decide_eq_false dz))])
                    go_wp2_with (fail)
                    exact ⟨⟨j + 1, hltj, rfl, by rw [HE.out], HA3.out, hX⟩, by simp [intOf]; omega⟩
            · have hje : j = m := by omega
              subst hje
              go_wp2_with (fail)
              go_ret
              exact ⟨rfl, hX⟩
end Go.Proofs.Ytlaflbepidkmnaa
/- Is a row of events fair? -/
namespace Go.Proofs.Ytlaflbepidkmnaa
open Go.RowKit
attribute [local go_sem] setCell_twice ByteArray.toList_eq str_list Ext.alloc Ext.drew
set_option linter.unusedSimpArgs false
set_option linter.unusedVariables false
set_option maxRecDepth 100000
set_option maxHeartbeats 1600000
attribute [local irreducible] Calls

theorem takeWhile_take {α : Type} {p : α → Bool} : ∀ (l : List α) (m : Nat), m ≤ l.length → (∀ x ∈ l.take m, p x = true) → (∀ h : m < l.length, p l[m] = false) → l.takeWhile p = l.take m
  | [], m, _, _, _ => by simp
  | x :: l, 0, _, _, h => by
    have := h (by simp)
    simp only [List.getElem_cons_zero] at this
    rw [List.takeWhile_cons_of_neg (by simp [this]), List.take_zero]
  | x :: l, m + 1, hm, h1, h2 => by
    rw [List.take_succ_cons, List.takeWhile_cons_of_pos (h1 x (by simp)), takeWhile_take l m (by simpa using hm) (fun y hy => h1 y (by simp [hy])) (fun h => by have := h2 (by simpa using h); simpa using this)]
theorem fair_none {s : TSet} {L : List Ev} {k : Nat} (hk : k < L.length) (h : fairAt s L k = false) : fairB s L = false := by
  unfold fairB
  rw [List.all_eq_false]
  exact ⟨k, List.mem_range.2 hk, by rw [h]; simp⟩
theorem fair_step {s : TSet} {L : List Ev} {k : Nat} (h1 : (List.range k).all (fairAt s L) = true) (h : fairAt s L k = true) : (List.range (k + 1)).all (fairAt s L) = true := by
  rw [List.range_succ, List.all_append, h1]
  simp [h]
theorem since_le {L : List Ev} {B : Int} (h : ∀ e ∈ L, e.tick ≤ B) : ∀ (i a : Int), sinceL L i = some a → a ≤ B := by
  have : ∀ (n : Nat), n ≤ L.length → ∀ (i a : Int), sinceL (L.take n) i = some a → a ≤ B := by
    intro n
    induction n with
    | zero => intro _ i a h; simp [sinceL] at h
    | succ n ih =>
      intro hn i a hs
      rw [List.take_succ_eq_append_getElem (by omega), since_snoc] at hs
      split at hs
      · split at hs
        · cases hs; exact h _ (List.getElem_mem _)
        · split at hs
          · cases hs
          · exact ih (by omega) i a hs
      · exact ih (by omega) i a hs
  intro i a hs
  have := this L.length (Nat.le_refl _)
  rw [List.take_length] at this
  exact this i a hs
theorem old_le {L : List Ev} {B : Int} (h : ∀ e ∈ L, e.tick ≤ B) {i : Nat} {a : Int} (ho : oldE L i = some a) : a ≤ B := by
  unfold oldE at ho
  obtain ⟨h1, _⟩ := minO_some.1 ho
  obtain ⟨j, _, hj⟩ := List.mem_map.1 h1
  exact since_le h j a hj
theorem fair_any (s : TSet) (v va : Value) (L : List Ev) (w : World) (hv : Tasks w v s.tasks) (hg : s.good) (hb : allB s = true) (hk : KH2 s) (h0 : ∀ e ∈ L, 0 ≤ e.tick ∧ e.tick ≤ 1099511627776) (ha : Evs w va L) :
    Calls Try.prog 11 #[setV s v, va] w fun e w' => e = .returned (.bool (fairB s L)) ∧ Ext w w' := by
  obtain ⟨A, c, rfl, hcc, hcm, hxx⟩ := id hv
  obtain ⟨Al, cl, rfl, hcl, hcm2⟩ := ha.form
  clear hxx
  unfold maxLen at hcm hcm2
  have hX1 := (Ext.refl w).alloc (.cells #[.int .i64 s.reload, .slice A s.tasks.length c] 24)
  have hB1 := Blk.new w #[.int .i64 s.reload, .slice A s.tasks.length c] 24
  have hAll := fun w' (hx : Ext w w') => allR_any s (.slice A s.tasks.length c) w' (hv.ext hx) hg
  have hOld := fun w' (hx : Ext w w') (k0 m : Nat) (h1 : k0 ≤ L.length) (h2 : m ≤ 8) => oldest_any (.slice Al L.length cl) L k0 m w' h1 h2 (fun e he => (h0 e he).1) (ha.ext hx)
  have hLast := fun w' (hx : Ext w w') (k0 : Nat) (h1 : k0 < L.length) => last_any (.slice Al L.length cl) L k0 w' h1 (ha.ext hx)
  rw [hb] at hAll
  unfold setV at hAll ⊢
  have HALL := Lib.hid hAll
  have HOLD := Lib.hid hOld
  have HLAST := Lib.hid hLast
  have HV := Lib.hid hv
  have HA := Lib.hid ha
  have H0 := Lib.hid h0
  obtain ⟨b, hbm⟩ : ∃ b, fairB s L = b := ⟨_, rfl⟩
  rw [hbm]
  have HM := Lib.hid hbm
  clear hAll hOld hLast hv ha h0 hbm
  go_enter Try.func11, Try.ntmps11
  go_upto_region 1 with (fail)
  generalize hW : w.alloc _ = W1 at hX1 hB1 ⊢
  clear hW
  have hcB := hB1.under
  have hc1 := hB1.cell
  go_wp2_with (fail)
  refine (HALL.out W1 hX1).mono ?_
  rintro e W2 ⟨rfl, hb2⟩
  have hX12 : Ext W1 W2 := ⟨hb2⟩
  clear hc1
  go_wp2_with (fail)
  go_loopw [5] (fun i wr => ∃ (k : Nat), k ≤ L.length ∧ i = .int .i64 k ∧ Hid ((List.range k).all (fairAt s L) = true) ∧ Ext W1 wr) (fun i _ => L.length - (intOf i).toNat)
  case atStart => exact ⟨0, by omega, rfl, Lib.hid rfl, hX12⟩
  case round =>
    obtain ⟨k, hk2, rfl, hall, hX⟩ := hrel
    clear hX12 hb2
    by_cases hlt : k < L.length
    · obtain ⟨bl, ol, rfl, hx⟩ := HA.out.at hlt
      have hXw := hX1.trans hX
      have HF := Lib.hid (fun h : fairAt s L k = false => (fair_none hlt h).symm.trans HM.out)
      have HT := Lib.hid (fun h : fairAt s L k = true => fair_step hall.out h)
      have hdef : fairAt s L k = if (evAt L k).kind ≠ 5 ∨ (evAt L k).task < 0 ∨ (s.tasks.length : Int) ≤ (evAt L k).task then true
        else if (s.tk (evAt L k).task.toNat).mode = 0 then decide (lastL (L.take k) (evAt L k).task = 7)
        else if (s.tk (evAt L k).task.toNat).mode = 1 then decide (0 ≤ oldV (oldE (L.take k) (evAt L k).task.toNat)) && decide (oldV (oldE (L.take k) (evAt L k).task.toNat) + (s.tk (evAt L k).task.toNat).q = (evAt L k).tick)
        else (sameT L k).any (thrB (s.tk (evAt L k).task.toNat).theta) := rfl
      have hsame : sameT L k = (L.drop (k + 1)).takeWhile fun x => decide (x.tick = (evAt L k).tick) := rfl
      have HLK := Lib.hid (fun w' (hx : Ext w w') => HLAST.out w' hx k hlt)
      have htk := H0.out (evAt L k) (by rw [evAt_in hlt]; exact List.getElem_mem hlt)
      generalize hp : evAt L k = p at *
      obtain ⟨p0, p1, p2, p3⟩ := p
      dsimp only at hx hdef hsame HLK htk
      obtain ⟨y0, y1, y2, y3⟩ := hx wr hXw
      have HD := Lib.hid hdef
      have HSM := Lib.hid hsame
      have hcr := hcB wr hX
      clear hx hp hdef hsame
      cases d1 : (p1 != 5) with
      | true =>
        have HN := Lib.hid (HT.out (by rw [HD.out, if_pos (.inl (by simpa using d1))]))
        go_wp2_with (fail)
        exact ⟨⟨k + 1, hlt, rfl, HN, hX.alloc _⟩, by simp [intOf]; omega⟩
      | false =>
        cases d2 : decide (p2 < 0) with
        | true =>
          have HN := Lib.hid (HT.out (by rw [HD.out, if_pos (.inr (.inl (of_decide_eq_true d2)))]))
          go_wp2_with (fail)
          exact ⟨⟨k + 1, hlt, rfl, HN, hX.alloc _⟩, by simp [intOf]; omega⟩
        | false =>
          cases d3 : decide ((s.tasks.length : Int) ≤ p2) with
          | true =>
            have HN := Lib.hid (HT.out (by rw [HD.out, if_pos (.inr (.inr (of_decide_eq_true d3)))]))
            go_wp2_with (fail)
            exact ⟨⟨k + 1, hlt, rfl, HN, hX.alloc _⟩, by simp [intOf]; omega⟩
          | false =>
            obtain ⟨m, rfl⟩ := Int.eq_ofNat_of_zero_le (Int.not_lt.1 (of_decide_eq_false d2))
            have hm : m < s.tasks.length := by have := of_decide_eq_false d3; omega
            have hD2 := HD.out
            rw [if_neg (by
              rintro (h | h | h)
              · exact h (by simpa using d1)
              · omega
              · exact of_decide_eq_false d3 h), Int.toNat_natCast, tk_in s hm] at hD2
            have HD2 := Lib.hid hD2
            have hq := hk.q m hm
            rw [tk_in s hm] at hq
            have hn8 := hk.kh.len.2
            clear hD2 HD
            go_upto_region 7 with (fail)
            have hE6 := (Ext.refl wr).alloc (.cells #[.int .i64 p0, .int .i64 p1, .int .i64 (m : Int), .int .i64 p3] 60)
            have hB6 := Blk.new wr #[.int .i64 p0, .int .i64 p1, .int .i64 (m : Int), .int .i64 p3] 60
            have hge6 : w.heap.size ≤ wr.heap.size := hXw.size
            generalize wr.alloc _ = W6 at hE6 hB6 ⊢
            generalize wr.heap.size = g6 at hB6 hge6 ⊢
            have hX6 := hX.trans hE6
            obtain ⟨bt, ot, r, rfl, hat⟩ := (HV.out.ext (hX1.trans hX6)).at hm
            have hc6 := hB6.cell
            have hc2 := hcB W6 hX6
            obtain ⟨Ar, cr, hr⟩ := hat.row
            obtain ⟨hIr, t0, t1, t2, t3, t4, t5, t6, t7, t8⟩ := hat
            generalize s.tasks[m] = t at *
            subst hr
            clear y0 y1 y2 y3 hcr hIr
            go_upto_region 10 with (fail)
            have hE7 := (Ext.refl W6).alloc (.cells #[.string t.name, .int .i64 t.T, .int .i64 t.D, .int .i64 t.mode, .int .i64 t.q, .int .i64 t.theta, .slice Ar t.regs.length cr, .int .u64 t.ecb, .int .u64 t.ucb] 34)
            have hB7 := Blk.new W6 #[.string t.name, .int .i64 t.T, .int .i64 t.D, .int .i64 t.mode, .int .i64 t.q, .int .i64 t.theta, .slice Ar t.regs.length cr, .int .u64 t.ecb, .int .u64 t.ucb] 34
            clear t0 t1 t2 t3 t4 t5 t6 t7 t8 hc6 hc2
            generalize W6.alloc _ = W7 at hE7 hB7 ⊢
            generalize W6.heap.size = g7 at hB7 ⊢
            have hX7 := hX6.trans hE7
            have hB67 := hB6.ext hE7
            have hu6 := hB67.under
            have hu7 := hB7.under
            have hc6 := hB67.cell
            have hc7 := hB7.cell
            clear hB6 hE6 hE7 hX6
            have hXW7 := hX1.trans hX7
            by_cases m0 : t.mode = 0
            · have dm : (t.mode == 0) = true := by simpa using m0
              have hL := HLK.out W7 hXW7
              have hD3 := HD2.out
              rw [if_pos m0] at hD3
              generalize lastL (L.take k) (m : Int) = q at hL hD3
              have HD3 := Lib.hid hD3
              have HL := Lib.hid hL
              clear hL hD3 HD2 m0
              go_wp2_with (fail)
              refine HL.out.mono ?_
              rintro e W8 ⟨rfl, hX8⟩
              clear hc6 hc7
              cases dq : decide (q = 7) with
              | true =>
                have dq2 : (q == 7) = true := by rw [beq_iff_eq]; exact of_decide_eq_true dq
                have HN := Lib.hid (HT.out (by rw [HD3.out, dq]))
                clear dq
                go_wp2_with (fail)
                exact ⟨⟨k + 1, hlt, rfl, HN, hX7.trans hX8⟩, by simp [intOf]; omega⟩
              | false =>
                have dq2 : (q == 7) = false := by rw [beq_eq_false_iff_ne]; exact of_decide_eq_false dq
                have hN := HF.out (by rw [HD3.out, dq])
                subst hN
                clear dq
                go_wp2_with (fail)
                go_ret
                exact ⟨rfl, hXW7.trans hX8⟩
            · have dm : (t.mode == 0) = false := by simpa using m0
              by_cases m1 : t.mode = 1
              · have dm1 : (t.mode == 1) = true := by simpa using m1
                have hL := HOLD.out W7 hXW7 k m (by omega) (by omega)
                have hD3 := HD2.out
                rw [if_neg m0, if_pos m1] at hD3
                have hqb : oldV (oldE (L.take k) m) ≤ 1099511627776 := by
                  cases ho : oldE (L.take k) m with
                  | none => show (-1 : Int) ≤ _; omega
                  | some a => exact old_le (fun e he => (H0.out e (List.mem_of_mem_take he)).2) ho
                generalize oldV (oldE (L.take k) m) = q at hL hD3 hqb
                have HD3 := Lib.hid hD3
                have HL := Lib.hid hL
                clear hL hD3 HD2 m0 m1
                go_wp2_with (fail)
                refine HL.out.mono ?_
                rintro e W8 ⟨rfl, hX8⟩
                have hd6 := hu6 W8 hX8
                have hd7 := hu7 W8 hX8
                clear hc6 hc7
                cases d5 : decide (0 ≤ q) with
                | false =>
                  have hN := HF.out (by rw [HD3.out, d5]; rfl)
                  subst hN
                  go_wp2_with (fail)
                  go_ret
                  exact ⟨rfl, hXW7.trans hX8⟩
                | true =>
                  have hq0 := of_decide_eq_true d5
                  have hw : IntKind.i64.wrap (q + t.q) = q + t.q := by rw [IntKind.wrap_i64]; omega
                  have hw2 : wrap64 (q + t.q) = q + t.q := by unfold wrap64; omega
                  cases dq : decide (q + t.q = p0) with
                  | true =>
                    have dq2 : (q + t.q == p0) = true := by rw [beq_iff_eq]; exact of_decide_eq_true dq
                    have HN := Lib.hid (HT.out (by rw [HD3.out, d5, dq]; rfl))
                    clear dq
                    go_wp2_with (fail)
                    exact ⟨⟨k + 1, hlt, rfl, HN, hX7.trans hX8⟩, by simp [intOf]; omega⟩
                  | false =>
                    have dq2 : (q + t.q == p0) = false := by rw [beq_eq_false_iff_ne]; exact of_decide_eq_false dq
                    have hN := HF.out (by rw [HD3.out, d5, dq]; rfl)
                    subst hN
                    clear dq
                    go_wp2_with (fail)
                    go_ret
                    exact ⟨rfl, hXW7.trans hX8⟩
              · have dm1 : (t.mode == 1) = false := by simpa using m1
                have hD3 := HD2.out
                rw [if_neg m0, if_neg m1, HSM.out] at hD3
                have HD3 := Lib.hid hD3
                clear hD3 HD2 HSM m0 m1
                have hth : t.theta = t.theta := rfl
                generalize t.theta = th at *
                go_wp2_with (fail)
                go_loopw [8, 10] (fun o i wr => ∃ (j : Nat) (b2 : Bool), k + 1 ≤ j ∧ j ≤ L.length ∧ i = .int .i64 j ∧ o = .bool b2 ∧ Hid (∀ x ∈ (L.drop (k + 1)).take (j - (k + 1)), decide (x.tick = p0) = true) ∧ Hid (((L.drop (k + 1)).take (j - (k + 1))).any (thrB th) = b2) ∧ Ext W7 wr) (fun _ i _ => L.length - (intOf i).toNat)
                case atStart => exact ⟨k + 1, false, by omega, by omega, by simp, rfl, Lib.hid (by simp), Lib.hid (by simp), Ext.refl W7⟩
                case round =>
                  obtain ⟨j, b2, hj1, hj2, rfl, rfl, hallt, hany, hXr⟩ := hrel
                  clear hc6 hc7
                  have hd6 := hu6 wr hXr
                  have hd7 := hu7 wr hXr
                  by_cases hjl : j < L.length
                  · have hlen : j - (k + 1) < (L.drop (k + 1)).length := by rw [List.length_drop]; omega
                    have hget : (L.drop (k + 1))[j - (k + 1)] = evAt L j := by
                      rw [List.getElem_drop, evAt_in hjl]
                      congr 1
                      omega
                    obtain ⟨bl', ol', e', hxj⟩ := HA.out.at hjl
                    obtain ⟨rfl, rfl⟩ : bl = bl' ∧ ol = ol' := by simpa using e'
                    obtain ⟨z0, z1, z2, z3⟩ := hxj wr (hXW7.trans hXr)
                    have hnx : (L.drop (k + 1)).take (j + 1 - (k + 1)) = (L.drop (k + 1)).take (j - (k + 1)) ++ [evAt L j] := by
                      rw [show j + 1 - (k + 1) = j - (k + 1) + 1 by omega, List.take_succ_eq_append_getElem hlen, hget]
                    have HNX := Lib.hid hnx
                    have HGET := Lib.hid hget
                    clear hxj e' z3 hnx hget
                    generalize hpj : evAt L j = pj at *
                    obtain ⟨q0, q1, q2, q3⟩ := pj
                    dsimp only at z0 z1 z2
                    clear hpj
                    cases dt : (q0 == p0) with
                    | false =>
                      have HTW := Lib.hid (show ((L.drop (k + 1)).takeWhile fun x => decide (x.tick = p0)) = (L.drop (k + 1)).take (j - (k + 1)) from takeWhile_take _ _ (Nat.le_of_lt hlen) hallt.out (fun h => by
                        rw [HGET.out]
                        rw [beq_eq_false_iff_ne] at dt
                        exact decide_eq_false dt))
                      clear HNX HGET hlen
                      cases b2 with
                      | true =>
                        have HN := Lib.hid (HT.out (by rw [HD3.out, HTW.out, hany.out]))
                        go_wp2_with (fail)
                        go_quiet (fail)
                        go_wp2_with (fail)
                        exact ⟨⟨k + 1, hlt, rfl, HN, (hX7.trans hXr).drewN _⟩, by simp [intOf]; omega⟩
                      | false =>
                        have hN := HF.out (by rw [HD3.out, HTW.out, hany.out])
                        subst hN
                        go_wp2_with (fail)
                        go_quiet (fail)
                        go_wp2_with (fail)
                        go_ret
                        exact ⟨rfl, (hXW7.trans hXr).drewN _⟩
                    | true =>
                      have HA1 := Lib.hid (show ∀ x ∈ (L.drop (k + 1)).take (j + 1 - (k + 1)), decide (x.tick = p0) = true from fun x hx => by
                        rw [HNX.out] at hx
                        rcases mem_snoc hx with hx | rfl
                        · exact hallt.out x hx
                        · exact decide_eq_true (by simpa using dt))
                      have HA2 := Lib.hid (show ((L.drop (k + 1)).take (j + 1 - (k + 1))).any (thrB th) = (b2 || thrB th ⟨q0, q1, q2, q3⟩) by rw [HNX.out, List.any_append, hany.out]; simp)
                      clear HNX HGET hlen
                      cases b2 with
                      | true =>
                        go_wp2_with (fail)
                        go_quiet (fail)
                        go_wp2_with (fail)
                        go_quiet (fail)
                        go_wp2_with (fail)
                        exact ⟨⟨j + 1, _, by omega, hjl, rfl, rfl, HA1, Lib.hid (by rw [HA2.out]; rfl), hXr.drewN _⟩, by simp [intOf]; omega⟩
                      | false =>
                        cases d4 : (q1 == 4) with
                        | true =>
                          have e4 : q1 = 4 := by simpa using d4
                          cases dz : decide (q2 < th) with
                          | true =>
                            have H9 := Lib.hid (show (false || thrB th ⟨q0, q1, q2, q3⟩) = true by unfold thrB; dsimp only; rw [decide_eq_true e4, dz]; rfl)
                            clear e4
                            go_wp2_with (fail)
                            go_quiet (fail)
                            go_wp2_with (fail)
                            go_quiet (fail)
                            go_wp2_with (fail)
                            exact ⟨⟨j + 1, _, by omega, hjl, rfl, rfl, HA1, Lib.hid (by rw [HA2.out]; exact H9.out), hXr.drewN _⟩, by simp [intOf]; omega⟩
                          | false =>
                            have H9 := Lib.hid (show (false || thrB th ⟨q0, q1, q2, q3⟩) = false by unfold thrB; dsimp only; rw [dz, Bool.and_false]; rfl)
                            clear e4
                            go_wp2_with (fail)
                            go_quiet (fail)
                            go_wp2_with (fail)
                            go_quiet (fail)
                            go_wp2_with (fail)
                            exact ⟨⟨j + 1, _, by omega, hjl, rfl, rfl, HA1, Lib.hid (by rw [HA2.out]; exact H9.out), hXr.drewN _⟩, by simp [intOf]; omega⟩
                        | false =>
                          have e4 : ¬ q1 = 4 := by simpa using d4
                          cases d6 : (q1 == 6) with
                          | true =>
                            have e6 : q1 = 6 := by simpa using d6
                            cases dz : decide (q2 < th) with
                            | true =>
                              have H9 := Lib.hid (show (false || thrB th ⟨q0, q1, q2, q3⟩) = true by unfold thrB; dsimp only; rw [decide_eq_true e6, dz, Bool.or_true]; rfl)
                              clear e4 e6
                              go_wp2_with (fail)
                              go_quiet (fail)
                              go_wp2_with (fail)
                              go_quiet (fail)
                              go_wp2_with (fail)
                              exact ⟨⟨j + 1, _, by omega, hjl, rfl, rfl, HA1, Lib.hid (by rw [HA2.out]; exact H9.out), hXr.drewN _⟩, by simp [intOf]; omega⟩
                            | false =>
                              have H9 := Lib.hid (show (false || thrB th ⟨q0, q1, q2, q3⟩) = false by unfold thrB; dsimp only; rw [dz, Bool.and_false]; rfl)
                              clear e4 e6
                              go_wp2_with (fail)
                              go_quiet (fail)
                              go_wp2_with (fail)
                              go_quiet (fail)
                              go_wp2_with (fail)
                              exact ⟨⟨j + 1, _, by omega, hjl, rfl, rfl, HA1, Lib.hid (by rw [HA2.out]; exact H9.out), hXr.drewN _⟩, by simp [intOf]; omega⟩
                          | false =>
                            have e6 : ¬ q1 = 6 := by simpa using d6
                            have H9 := Lib.hid (show (false || thrB th ⟨q0, q1, q2, q3⟩) = false by unfold thrB; dsimp only; rw [decide_eq_false e4, decide_eq_false e6]; rfl)
                            clear e4 e6
                            go_wp2_with (fail)
                            go_quiet (fail)
                            go_wp2_with (fail)
                            go_quiet (fail)
                            go_wp2_with (fail)
                            exact ⟨⟨j + 1, _, by omega, hjl, rfl, rfl, HA1, Lib.hid (by rw [HA2.out]; exact H9.out), hXr.drewN _⟩, by simp [intOf]; omega⟩
                  · have hje : j = L.length := by omega
                    have HTW := Lib.hid (show ((L.drop (k + 1)).takeWhile fun x => decide (x.tick = p0)) = (L.drop (k + 1)).take (j - (k + 1)) from takeWhile_take _ _ (by rw [List.length_drop]; omega) hallt.out (fun h => by rw [List.length_drop] at h; omega))
                    clear hje
                    cases b2 with
                    | true =>
                      have HN := Lib.hid (HT.out (by rw [HD3.out, HTW.out, hany.out]))
                      go_wp2_with (fail)
                      go_quiet (fail)
                      go_wp2_with (fail)
                      exact ⟨⟨k + 1, hlt, rfl, HN, (hX7.trans hXr).drewN _⟩, by simp [intOf]; omega⟩
                    | false =>
                      have hN := HF.out (by rw [HD3.out, HTW.out, hany.out])
                      subst hN
                      go_wp2_with (fail)
                      go_quiet (fail)
                      go_wp2_with (fail)
                      go_ret
                      exact ⟨rfl, (hXW7.trans hXr).drewN _⟩
    · have hke : k = L.length := by omega
      subst hke
      have hbt : b = true := HM.out.symm.trans hall.out
      subst hbt
      go_wp2_with (fail)
      go_ret
      exact ⟨rfl, hX1.trans hX⟩
end Go.Proofs.Ytlaflbepidkmnaa
/- MapR -/
namespace Go.Proofs.Ytlaflbepidkmnaa
open Go Go.ChangeMaps Go.MapKept Go.WideShapes Go.Maps
open Go.WideElems (Fit rd rg pl rd_key rd_val rg_of other_key rd_mk)
section
variable {H : Type} {P : Program} {k : TypeId} {R : Value → Option (DataW H × List MemPlace)} {w : World} {b r n : Nat} {D : DataW H} {left : Lit → Bool} {cnt : Nat}

theorem ranges_store {t e : TypeId} (h : w.ranges P k R b r n D left cnt) (K : Keyed P k) (ht : P.underlying t = some (.map k e)) {key val : Value} {kl : Lit} {d : DataW H} {ps : List MemPlace}
    (hkey : keyOf P k key = some kl) (hv : R val = some (d, ps)) (hhas : Maps.has D kl = true) :
    ∃ w', (Instr.mapUpdate t (.map (some b)) key val).run P w = .ok () w' ∧ w'.ranges P k R b r n (D.put kl d) left cnt ∧ w.grownBy w' (some b) ∧ w'.heap.size = w.heap.size := by
  have hne := h.ne
  obtain ⟨es, clock, since, seen, c0, hb, F, hs, rfl, hr, hold, rfl, hl1, hl2, hsc, hsk⟩ := h
  rcases K.find w hkey es.toList F.keys with ⟨h1, h2⟩ | ⟨j, e0, h1, h2, h3⟩
  · exfalso
    obtain ⟨p, hp, hpk⟩ := List.any_eq_true.1 hhas
    obtain ⟨x, hx, rfl⟩ := List.mem_map.1 (mem_sorted.1 hp)
    obtain ⟨y, hy⟩ := F.reads x hx
    have m1 := rd_key hy
    have e1 := WideAt.sameKey_eq hpk
    rw [rg_of hy] at e1
    rw [e1] at m1
    exact h2 x hx (K.inj m1 hkey)
  · have hj : es[j]? = some e0 := by simpa using h2
    have hjl : j < es.toList.length := (List.getElem?_eq_some_iff.1 h2).1
    have hkeyf : ∀ e', es[j]? = some e' → ({ e' with key := key, val := val } : MapEntry).key = e'.key := fun e' he' => by rw [hj] at he'; cases he'; exact h3.symm
    have hlist : (es.modify j (fun e' => { e' with key := key, val := val })).toList = es.toList.set j { e0 with key := key, val := val } := by rw [Array.toList_modify, modify_eq_set _ _ _ _ h2]
    have who : ∀ x ∈ es.toList.set j { e0 with key := key, val := val }, x = { e0 with key := key, val := val } ∨ (x ∈ es.toList ∧ x.key ≠ key) := by
      intro x hx
      obtain ⟨i, hi, ex⟩ := List.getElem_of_mem hx
      rw [List.getElem_set] at ex
      split at ex
      · exact Or.inl ex.symm
      · rename_i hne
        have hi' : i < es.toList.length := by simpa using hi
        refine Or.inr ⟨ex ▸ List.getElem_mem hi', ?_⟩
        rw [← h3]
        exact other_key F h2 (by rw [List.getElem?_eq_getElem hi', ex]) (fun e1 => hne e1.symm)
    have hm0 : e0 ∈ es.toList := List.mem_of_getElem? h2
    have hk0 : (rg P k R e0).1 = kl := by
      obtain ⟨y0, hy0⟩ := F.reads e0 hm0
      have m0 := rd_key hy0
      rw [h3, hkey] at m0
      rw [rg_of hy0]
      exact (Option.some.inj m0).symm
    have hkn : (rg P k R { e0 with key := key, val := val }).1 = kl := by rw [rg_of (rd_mk hkey hv)]
    have hborn : (es.modify j (fun e' => { e' with key := key, val := val })).toList.map (·.born) = es.toList.map (·.born) := by
      rw [hlist]
      refine List.ext_getElem (by simp) fun i g1 g2 => ?_
      simp only [List.getElem_map, List.getElem_set]
      split
      · rename_i e1
        subst e1
        have : es.toList[j] = e0 := by
          rw [List.getElem?_eq_getElem (by simpa using hjl)] at h2
          exact Option.some.inj h2
        rw [this]
      · rfl
    have hcnt : ∀ a : Array MapEntry, (leftOf a seen).size = ((a.toList.map (·.born)).filter fun n => !seen.contains n).length := fun a => by
      unfold leftOf
      rw [← Array.length_toList, Array.toList_filter, List.filter_map, List.length_map]
      rfl
    refine ⟨setBlock w b (.map (es.modify j (fun e' => { e' with key := key, val := val })) clock), ?_, ⟨_, clock, since, seen, c0, heap_setBlock_same hb _, ⟨by simpa using F.size, stamped_modify F.stamped _ _ (fun _ _ => rfl) (fun e' _ he' => hkeyf e' he'), ?_⟩, by simpa using hs, ?_, (heap_setBlock_other hb _ hne).trans hr, ?_, ?_, ?_, ?_, hsc, hsk⟩, ⟨rfl, rfl, rfl, by simp [setBlock], fun i _ hi => heap_setBlock_other hb _ (fun e => hi (by rw [e]))⟩, by simp [setBlock]⟩
    · simp [Instr.mapUpdate, run_underlying ht, MapKept.run_getObj_map hb, K.check w false hkey, h1, hj, h3, K.stays w hkey, MapKept.run_setObj_map _ hb, Result.andThen, setBlock]
    · intro x hx
      rw [hlist] at hx
      rcases who x hx with rfl | ⟨hx', _⟩
      · exact ⟨_, rd_mk hkey hv⟩
      · exact F.reads x hx'
    · rw [DataW.put_eq]
      congr 1
      symm
      refine sorted_put K.one ⟨key, hkey⟩ (Maps.fit_keys F) (Maps.fit_apart K F) ?_
      rw [Maps.filter_one K F hkey h2 h3, hlist, List.map_set, rg_of (rd_mk hkey hv)]
      exact set_perm _ _ (by simpa using hjl) _
    · intro x hx
      rw [hlist] at hx
      rcases who x hx with rfl | ⟨hx', _⟩
      · exact hold e0 hm0
      · exact hold x hx'
    · rw [hcnt, hcnt, hborn]
    · intro x hx
      rw [hlist] at hx
      rcases who x hx with rfl | ⟨hx', _⟩
      · rw [hkn, ← hk0]
        exact hl1 e0 hm0
      · exact hl1 x hx'
    · intro kl' hk'
      obtain ⟨x, hx, rfl⟩ := hl2 kl' hk'
      by_cases hxk : x.key = key
      · refine ⟨{ e0 with key := key, val := val }, by rw [hlist]; exact List.mem_iff_getElem.2 ⟨j, by simpa using hjl, by simp⟩, ?_⟩
        rw [hkn]
        obtain ⟨y, hy⟩ := F.reads x hx
        have m1 := rd_key hy
        rw [hxk, hkey] at m1
        rw [rg_of hy]
        exact Option.some.inj m1
      · refine ⟨x, ?_, rfl⟩
        rw [hlist]
        obtain ⟨i, hi, ei⟩ := List.getElem_of_mem hx
        have hij : j ≠ i := fun e1 => hxk (by
          subst e1
          have : es.toList[j] = e0 := by
            rw [List.getElem?_eq_getElem (by simpa using hjl)] at h2
            exact Option.some.inj h2
          rw [← ei, this, h3])
        exact List.mem_iff_getElem.2 ⟨i, by simpa using hi, by rw [List.getElem_set_ne hij, ei]⟩
/-- 'm[k] = v' at a key that is there, in the round of a range over m. -/
theorem wpList_store_ranges {ops : Array Oper} {rest : List Oper} {o : Oper} {a : Act} {Q : Exit → Act → World → Prop} (hg : o.guard = none) (m x v : Operand) (t : TypeId) (hop : o.op = Op.mapUpdate t m x v) (k e : TypeId) (K : Keyed P k) (ht : P.underlying t = some (.map k e)) (R : Value → Option (DataW H × List MemPlace)) (b r n : Nat) (D : DataW H) (left : Lit → Bool) (cnt : Nat)
    (hm : a.eval m = .map (some b)) (h : w.ranges P k R b r n D left cnt) (key val : Value) (kl : Lit) (hx : a.eval x = key) (hv : a.eval v = val) (hkey : keyOf P k key = some kl) (d : DataW H) (ps : List MemPlace) (hval : R val = some (d, ps)) (hhas : Maps.has D kl = true)
    (hK : ∀ w', w'.ranges P k R b r n (D.put kl d) left cnt → w.grownBy w' (some b) → w'.heap.size = w.heap.size → wpList P ops Q rest (a.put o.dst undef) w') :
    wpList P ops Q (o :: rest) a w := by
  refine wpList_plain hg fun K' hK' => ?_
  obtain ⟨w', hrun, r1, r2, r3⟩ := ranges_store h K ht hkey hval hhas
  unfold Oper.wp
  simp [execOp, hop, hm, hx, hv, hrun, Result.andThen]
  exact hK' _ _ (hK w' r1 r2 r3)
end
end Go.Proofs.Ytlaflbepidkmnaa
/- MapF -/
namespace Go.Proofs.Ytlaflbepidkmnaa
open Go Go.ChangeMaps Go.MapKept Go.WideShapes Go.Maps Go.RowKit

structure MapTy (P : Program) (t k e : TypeId) : Prop where
  z : ∀ w, (zeroValue e).run P w = .ok (.int .i64 0) w
  t : P.underlying t = some (.map k e)
  k : P.underlying k = some (.int .i64)
  e : P.underlying e = some (.int .i64)
def AgrF (D : DataW Unit) (f : Int → Option Int) : Prop :=
  (∀ x, Maps.has D (.int .i64 x) = (f x).isSome) ∧ ∀ x n, f x = some n → ∀ zd, D.atKey (.int .i64 x) zd = .lit (.int .i64 n)
def upd (f : Int → Option Int) (x : Int) (v : Option Int) : Int → Option Int := fun y => if y = x then v else f y
def MapF (P : Program) (k e : TypeId) (w : World) (b n : Nat) (f : Int → Option Int) : Prop := ∃ D : DataW Unit, w.ownsMap P k (plainElem P e) b n D ∧ AgrF D f
def RngF (P : Program) (k e : TypeId) (w : World) (b r n : Nat) (f : Int → Option Int) (left : Int → Bool) (cnt : Nat) : Prop :=
  ∃ (D : DataW Unit) (L : Lit → Bool), w.ranges P k (plainElem P e) b r n D L cnt ∧ AgrF D f ∧ ∀ x, L (.int .i64 x) = left x
theorem lit_ne {x y : Int} (h : y ≠ x) : (Lit.int .i64 y) ≠ .int .i64 x := fun e => h (by injection e)
theorem sameKey_int (x y : Int) : (Lit.int .i64 y).sameKey (.int .i64 x) = decide (y = x) := by
  by_cases h : y = x
  · subst h
    simp [Lit.sameKey]
  · rw [Maps.sameKey_ne (lit_ne h), decide_eq_false h]
section
variable {P : Program} {t k e : TypeId} {w : World} {b r n : Nat} {f : Int → Option Int} {left : Int → Bool} {cnt : Nat}
theorem AgrF.put {D : DataW Unit} (h : AgrF D f) (hD : IsMap D) {x : Int} (hk : WideAt.IsKeyLit (.int .i64 x)) (v : Int) : AgrF (D.put (.int .i64 x) (.lit (.int .i64 v))) (upd f x (some v)) := by
  refine ⟨fun y => ?_, fun y m hy zd => ?_⟩
  · unfold upd
    split
    · rename_i e; subst e; exact has_put_same hD hk _
    · rename_i e; rw [has_put_other (lit_ne e)]; exact h.1 y
  · unfold upd at hy
    split at hy
    · rename_i e; subst e
      cases hy
      exact atKey_put_same hD hk _ _
    · rename_i e; rw [atKey_put_other (lit_ne e)]; exact h.2 y m hy zd
theorem AgrF.del {D : DataW Unit} (h : AgrF D f) (x : Int) : AgrF (D.del (.int .i64 x)) (upd f x none) := by
  refine ⟨fun y => ?_, fun y m hy zd => ?_⟩
  · unfold upd
    split
    · rename_i e; subst e; exact has_del_same
    · rename_i e; rw [has_del_other (lit_ne e)]; exact h.1 y
  · unfold upd at hy
    split at hy
    · cases hy
    · rename_i e; rw [atKey_del_other (lit_ne e)]; exact h.2 y m hy zd
theorem MapF.made (P : Program) (k e : TypeId) (w : World) : MapF P k e (w.alloc (.map #[] 0)) w.heap.size 0 fun _ => none :=
  ⟨_, World.ownsMap_made w P k _, fun _ => rfl, fun _ _ h => by cases h⟩
theorem MapF.lt (h : MapF P k e w b n f) : b < w.heap.size := by obtain ⟨D, h1, _⟩ := h; exact h1.lt
theorem MapF.mono (h : MapF P k e w b n f) {n' : Nat} (hn : n ≤ n') : MapF P k e w b n' f := by obtain ⟨D, h1, h2⟩ := h; exact ⟨D, h1.mono hn, h2⟩
theorem MapF.grown {w' : World} {row : Option Nat} (h : MapF P k e w b n f) (hg : w.grownBy w' row) (hne : some b ≠ row) : MapF P k e w' b n f := by obtain ⟨D, h1, h2⟩ := h; exact ⟨D, h1.kept hg hne, h2⟩
theorem MapF.ext {w' : World} (h : MapF P k e w b n f) (hx : Ext w w') : MapF P k e w' b n f := by
  obtain ⟨D, h1, h2⟩ := h
  have hl := h1.lt
  obtain ⟨es, clock, hb, rest⟩ := h1
  exact ⟨D, ⟨es, clock, (hx.below.block b hl).trans hb, rest⟩, h2⟩
theorem MapF.setCell (h : MapF P k e w b n f) {a : Addr} (ha : b ≠ a.block) (u : Value) : MapF P k e (w.setCell a u) b n f := by obtain ⟨D, h1, h2⟩ := h; exact ⟨D, h1.setCell ha u, h2⟩
theorem RngF.ext {w' : World} (h : RngF P k e w b r n f left cnt) (hx : Ext w w') : RngF P k e w' b r n f left cnt := by
  obtain ⟨D, L, h1, h2⟩ := h
  have hl1 := h1.owns.lt
  have hl2 := h1.lt
  obtain ⟨es, clock, since, seen, c0, hb, F, hs, hD, hr, rest⟩ := h1
  exact ⟨D, L, ⟨es, clock, since, seen, c0, (hx.below.block b hl1).trans hb, F, hs, hD, (hx.below.block r hl2).trans hr, rest⟩, h2⟩
theorem RngF.grown {w' : World} {row : Option Nat} (h : RngF P k e w b r n f left cnt) (hg : w.grownBy w' row) (hb : some b ≠ row) (hr : some r ≠ row) : RngF P k e w' b r n f left cnt := by
  obtain ⟨D, L, h1, h2⟩ := h
  exact ⟨D, L, h1.kept hg hb hr, h2⟩
theorem RngF.map (h : RngF P k e w b r n f left cnt) : MapF P k e w b n f := by obtain ⟨D, L, h1, h2, _⟩ := h; exact ⟨D, h1.owns, h2⟩
theorem RngF.left_eq (h : RngF P k e w b r n f left cnt) : w.rangeLeft b r = cnt := by obtain ⟨D, L, h1, _⟩ := h; exact h1.left_eq
theorem RngF.lt (h : RngF P k e w b r n f left cnt) : r < w.heap.size := by obtain ⟨D, L, h1, _⟩ := h; exact h1.lt
theorem RngF.ne (h : RngF P k e w b r n f left cnt) : r ≠ b := by obtain ⟨D, L, h1, _⟩ := h; exact h1.ne
/-- what each key of the map is -/
theorem MapF.wf (h : MapF P k e w b n f) (T : MapTy P t k e) (x v : Int) (hx : f x = some v) : (Lit.int .i64 x).wf = true ∧ (Lit.int .i64 v).wf = true := by
  obtain ⟨D, ⟨es, clock, hb, F, hs, rfl⟩, h1, h2⟩ := h
  have hh := h1 x
  rw [hx] at hh
  obtain ⟨p, hp, hpk⟩ := List.any_eq_true.1 hh
  obtain ⟨m, hm, rfl⟩ := List.mem_map.1 (mem_sorted.1 hp)
  obtain ⟨y, hy⟩ := F.reads m hm
  have e1 := WideAt.sameKey_eq hpk
  have k1 := WideElems.rd_key hy
  obtain ⟨z, hz, hzd⟩ := WideElems.rd_val hy
  rw [WideElems.rg_of hy] at e1
  obtain ⟨x', _, e2, hw⟩ := Maps.keyOf_int_inv T.k k1
  rw [e1] at e2
  obtain ⟨c, _, ec, hc⟩ := plainElem_int_inv T.e hz
  have hat := (atKey_sorted (es.toList.map (WideElems.rg P k (plainElem P e))) (Maps.fit_rising (int_keyed T.k) F) (.int .i64 x) ((int_keyed T.k).key (v := m.key) (by rw [k1, e1]))).2 (WideElems.rg P k (plainElem P e) m) (List.mem_map.2 ⟨m, hm, rfl⟩) (by rw [WideElems.rg_of hy]; exact e1)
  have h3 := h2 x v hx (.lit (.int .i64 0))
  rw [hat, WideElems.rg_of hy, hzd, ec] at h3
  injection e2 with _ e2
  injection h3 with h3
  injection h3 with _ h3
  rw [e2, ← h3]
  exact ⟨hw, hc⟩
theorem own_ne_map {α : Type} {enc : α → List Value} {base s : Nat} {et : TypeId} {v : Value} {xs : List α} (h : OwnL enc w base et s v xs) (hm : MapF P k e w b n f) : v.ownBlock ≠ some b := by
  obtain ⟨D, ⟨es, clock, hb, _⟩, _⟩ := hm
  intro hk
  rcases h.2 with ⟨rfl, _⟩ | ⟨g', cap, cur, rfl, _, hh, _⟩
  · simp [Value.ownBlock] at hk
  · obtain rfl : g' = b := by simpa [Value.ownBlock] using hk
    rw [hh] at hb
    cases hb
theorem own_ne_iter {α : Type} {enc : α → List Value} {base s : Nat} {et : TypeId} {v : Value} {xs : List α} (h : OwnL enc w base et s v xs) (hm : RngF P k e w b r n f left cnt) : v.ownBlock ≠ some r := by
  obtain ⟨D, L, ⟨es, clock, since, seen, c0, hb, F, hs, hD, hr, _⟩, _⟩ := hm
  intro hk
  rcases h.2 with ⟨rfl, _⟩ | ⟨g', cap, cur, rfl, _, hh, _⟩
  · simp [Value.ownBlock] at hk
  · obtain rfl : g' = r := by simpa [Value.ownBlock] using hk
    rw [hh] at hr
    cases hr
variable {ops : Array Oper} {rest : List Oper} {o : Oper} {a : Act} {Q : Exit → Act → World → Prop}
theorem wpF_look (T : MapTy P t k e) (hg : o.guard = none) (m x : Operand) (hop : o.op = Op.lookup t m x true) (hm : a.eval m = .map (some b)) (h : MapF P k e w b n f) (i : Int) (hw : (Lit.int .i64 i).wf = true) (hx : a.eval x = .int .i64 i)
    (hK : wpList P ops Q rest (a.put o.dst (.tuple #[.int .i64 ((f i).getD 0), .bool (f i).isSome])) w) : wpList P ops Q (o :: rest) a w := by
  obtain ⟨D, h1, h2, h3⟩ := h
  refine wpList_lookup_own_ok_int w hg m x t hop k e .i64 (int_keyed T.k) T.t T.e (T.z w) b n D hm h1 _ _ hx (keyOf_int_mk T.k hw) ?_
  intro c hat hwc
  rw [h2]
  cases hf : f i with
  | none =>
    rw [hf] at hK
    rw [atKey_of_not_has (by rw [h2, hf]; rfl)] at hat
    injection hat with hat
    injection hat with _ hat
    subst hat
    exact hK
  | some v =>
    rw [hf] at hK
    rw [h3 i v hf] at hat
    injection hat with hat
    injection hat with _ hat
    subst hat
    exact hK
theorem wpF_look1 (T : MapTy P t k e) (hg : o.guard = none) (m x : Operand) (hop : o.op = Op.lookup t m x false) (hm : a.eval m = .map (some b)) (h : MapF P k e w b n f) (i : Int) (hw : (Lit.int .i64 i).wf = true) (hx : a.eval x = .int .i64 i)
    (hK : wpList P ops Q rest (a.put o.dst (.int .i64 ((f i).getD 0))) w) : wpList P ops Q (o :: rest) a w := by
  obtain ⟨D, h1, h2, h3⟩ := h
  refine wpList_lookup_own_int w hg m x t hop k e .i64 (int_keyed T.k) T.t T.e (T.z w) b n D hm h1 _ _ hx (keyOf_int_mk T.k hw) ?_
  intro c hat hwc
  cases hf : f i with
  | none =>
    rw [hf] at hK
    rw [atKey_of_not_has (by rw [h2, hf]; rfl)] at hat
    injection hat with hat
    injection hat with _ hat
    subst hat
    exact hK
  | some v =>
    rw [hf] at hK
    rw [h3 i v hf] at hat
    injection hat with hat
    injection hat with _ hat
    subst hat
    exact hK
theorem wpF_store (T : MapTy P t k e) (hg : o.guard = none) (m x v : Operand) (hop : o.op = Op.mapUpdate t m x v) (hm : a.eval m = .map (some b)) (h : MapF P k e w b n f) (hn : n < maxLen) (i u : Int) (hw : (Lit.int .i64 i).wf = true) (hx : a.eval x = .int .i64 i) (hu : (Lit.int .i64 u).wf = true) (hv : a.eval v = .int .i64 u)
    (hK : ∀ w', MapF P k e w' b (n + 1) (upd f i (some u)) → w.grownBy w' (some b) → wpList P ops Q rest (a.put o.dst undef) w') : wpList P ops Q (o :: rest) a w := by
  obtain ⟨D, h1, h2⟩ := h
  have hk := keyOf_int_mk T.k hw
  refine wpList_mapUpdate_own w hg m x v t hop k e (int_keyed T.k) T.t _ b n D hm h1 hn _ _ _ hx hv hk _ [] (plainElem_int T.e hu) ?_
  intro w' h3 h4
  exact hK w' ⟨_, h3, h2.put h1.isMap ((int_keyed T.k).key hk) u⟩ h4
theorem wpF_del (T : MapTy P t k e) (hg : o.guard = none) (m x : Operand) (hop : o.op = Op.call { callee := Callee.builtin Builtin.delete, args := #[m, x], argTypes := #[t, k] }) (hm : a.eval m = .map (some b)) (h : MapF P k e w b n f) (i : Int) (hw : (Lit.int .i64 i).wf = true) (hx : a.eval x = .int .i64 i)
    (hK : ∀ w', MapF P k e w' b n (upd f i none) → w.grownBy w' (some b) → wpList P ops Q rest (a.put o.dst (.tuple #[])) w') : wpList P ops Q (o :: rest) a w := by
  obtain ⟨D, h1, h2⟩ := h
  refine wpList_delete_own w hg m x t k hop e (int_keyed T.k) T.t _ b n D hm h1 _ _ hx (keyOf_int_mk T.k hw) ?_
  intro w' h3 h4
  exact hK w' ⟨_, h3, h2.del i⟩ h4.grown
theorem wpF_range (T : MapTy P t k e) (hg : o.guard = none) (m : Operand) (hop : o.op = Op.range t m) (hm : a.eval m = .map (some b)) (h : MapF P k e w b n f)
    (hK : ∀ w' cnt, cnt ≤ n → RngF P k e w' b w.heap.size n f (fun x => (f x).isSome) cnt → w.grownBy w' none → w'.heap.size = w.heap.size + 1 → wpList P ops Q rest (a.put o.dst (.pointer (some ⟨w.heap.size, 0, none⟩))) w') : wpList P ops Q (o :: rest) a w := by
  obtain ⟨D, h1, h2⟩ := h
  refine wpList_range_own w hg m t hop k e (int_keyed T.k) T.t _ b n D hm h1 ?_
  intro w' h3 h4 h5
  exact hK w' _ h1.size_le ⟨D, _, h3, h2, h2.1⟩ h4 h5
theorem wpF_next (T : MapTy P t k e) (hg : o.guard = none) (it : Operand) (hop : o.op = Op.next it false) (hit : a.eval it = .pointer (some ⟨r, 0, none⟩)) (h : RngF P k e w b r n f left cnt)
    (hDone : (∀ x, left x = false) → wpList P ops Q rest (a.put o.dst (.tuple #[.bool false])) w)
    (hMore : ∀ (x c : Int) (w' : World) (cnt' : Nat), (Lit.int .i64 x).wf = true → (Lit.int .i64 c).wf = true → left x = true → f x = some c → RngF P k e w' b r n f (fun y => left y && !decide (y = x)) cnt' → cnt' < cnt → w.grownBy w' (some r) → w'.heap.size = w.heap.size →
      (Instr.entry (.pointer (some ⟨r, 0, none⟩))).run P w' = .ok (.tuple #[.int .i64 x, .int .i64 c]) w' → wpList P ops Q rest (a.put o.dst (.tuple #[.bool true, .int .i64 x, .int .i64 c])) w') : wpList P ops Q (o :: rest) a w := by
  obtain ⟨D, L, h1, h2, h3⟩ := h
  refine wpList_next_ranges_ii w hg it hop k e .i64 .i64 (int_keyed T.k) T.k T.e b r n D L cnt hit h1 ?_ ?_
  · intro _ hl
    exact hDone fun x => by rw [← h3]; exact hl _
  · intro x c w' cnt' hwx hwc hlx hat hrg hlt hgr hsz hen
    have hs : (f x).isSome = true := by
      rw [← h2.1 x]
      exact Maps.has_true_of_atKey hat
    obtain ⟨v, hv⟩ := Option.isSome_iff_exists.1 hs
    have hv2 := hat (.lit (.int .i64 0))
    rw [h2.2 x v hv] at hv2
    injection hv2 with hv2
    injection hv2 with _ hv2
    subst hv2
    exact hMore x v w' cnt' hwx hwc (by rw [← h3]; exact hlx) hv ⟨D, _, hrg, h2, fun y => by show (L _ && !_) = _; rw [h3, sameKey_int]⟩ hlt hgr hsz hen
theorem wpF_rstore (T : MapTy P t k e) (hg : o.guard = none) (m x v : Operand) (hop : o.op = Op.mapUpdate t m x v) (hm : a.eval m = .map (some b)) (h : RngF P k e w b r n f left cnt) (i u : Int) (hf : (f i).isSome = true) (hw : (Lit.int .i64 i).wf = true) (hx : a.eval x = .int .i64 i) (hu : (Lit.int .i64 u).wf = true) (hv : a.eval v = .int .i64 u)
    (hK : ∀ w', RngF P k e w' b r n (upd f i (some u)) left cnt → w.grownBy w' (some b) → w'.heap.size = w.heap.size → wpList P ops Q rest (a.put o.dst undef) w') : wpList P ops Q (o :: rest) a w := by
  obtain ⟨D, L, h1, h2, h3⟩ := h
  have hk := keyOf_int_mk T.k hw
  refine wpList_store_ranges hg m x v t hop k e (int_keyed T.k) T.t _ b r n D L cnt hm h1 _ _ _ hx hv hk _ [] (plainElem_int T.e hu) (by rw [h2.1]; exact hf) ?_
  intro w' h4 h5 h6
  exact hK w' ⟨_, L, h4, h2.put h1.owns.isMap ((int_keyed T.k).key hk) u, h3⟩ h5 h6
theorem wpF_rdel (T : MapTy P t k e) (hg : o.guard = none) (m x : Operand) (hop : o.op = Op.call { callee := Callee.builtin Builtin.delete, args := #[m, x], argTypes := #[t, k] }) (hm : a.eval m = .map (some b)) (h : RngF P k e w b r n f left cnt) (i : Int) (hl : left i = false) (hw : (Lit.int .i64 i).wf = true) (hx : a.eval x = .int .i64 i)
    (hK : ∀ w' cnt', RngF P k e w' b r n (upd f i none) left cnt' → cnt' ≤ cnt → w.grownBy w' (some b) → wpList P ops Q rest (a.put o.dst (.tuple #[])) w') : wpList P ops Q (o :: rest) a w := by
  obtain ⟨D, L, h1, h2, h3⟩ := h
  refine wpList_delete_ranges w hg m x t k hop e (int_keyed T.k) T.t _ b r n D L cnt hm h1 _ _ hx (keyOf_int_mk T.k hw) ?_
  intro w' cnt' h4 h5 h6
  refine hK w' cnt' ⟨_, _, h4, h2.del i, fun y => ?_⟩ h5 h6.grown
  show (L _ && !_) = _
  rw [h3, sameKey_int]
  by_cases h : y = i
  · subst h; rw [hl]; rfl
  · simp [h]
end
end Go.Proofs.Ytlaflbepidkmnaa
