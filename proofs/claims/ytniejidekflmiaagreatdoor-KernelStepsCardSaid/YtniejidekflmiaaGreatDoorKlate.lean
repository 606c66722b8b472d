/- The kernel: late jobs. -/
import Derived.Test.YtniejidekflmiaaGreatDoorProg
import Derived.Test.YtniejidekflmiaaGreatDoorBase
import Derived.Test.YtniejidekflmiaaGreatDoorHeldX
import Derived.Test.YtniejidekflmiaaGreatDoorApp
import Derived.Test.YtniejidekflmiaaGreatDoorExt0
import Derived.Test.YtniejidekflmiaaGreatDoorChg
import Derived.Test.YtniejidekflmiaaGreatDoorRowB
import Derived.Test.YtniejidekflmiaaGreatDoorKM
import Derived.Test.YtniejidekflmiaaGreatDoorKP1
import Derived.Test.YtniejidekflmiaaGreatDoorOpenI
import Derived.Test.YtniejidekflmiaaGreatDoorTskP
import Derived.Test.YtniejidekflmiaaGreatDoorKat
import Derived.Test.YtniejidekflmiaaGreatDoorHeldN
import Derived.Test.YtniejidekflmiaaGreatDoorKbit
import Derived.Test.YtniejidekflmiaaGreatDoorKn0
import Derived.Deep.Cut
import Derived.Lib.Hide
import Derived.OwnWalk
import Derived.Maps.AppendAt
import Derived.BigQuiet
namespace Go.Proofs.YtniejidekflmiaaGreatDoor
open Go.RowKit
attribute [local go_sem] setCell_twice Ext.alloc Ext.drew
set_option linter.unusedSimpArgs false
set_option linter.unusedVariables false
set_option maxRecDepth 100000
set_option maxHeartbeats 400000
attribute [local irreducible] Calls

theorem TRow.tasks {w : World} {v : Value} {ps : List (Tsk × Value)} (h : TRow w v ps) : Tasks w v (ps.map (·.1)) := by
  have := h.row.read (R := fun w b o p => TaskAt w b o p.1 p.2) (F := Any) (fun _ => rfl) (fun _ _ _ => trivial) (fun b o p hp hx => ⟨RowI.ints (h.regs p hp), hx 0 _ rfl, hx 1 _ rfl, hx 2 _ rfl, hx 3 _ rfl, hx 4 _ rfl, hx 5 _ rfl, hx 6 _ rfl, hx 7 _ rfl, hx 8 _ rfl⟩)
  obtain ⟨A, c, e, h1, h2, h3⟩ := this
  refine ⟨A, c, by rw [List.length_map]; exact e, by rw [List.length_map]; exact h1, h2, fun hne => ?_⟩
  obtain ⟨b, o, e, _, hx⟩ := h3 (fun e => hne (by rw [e]; rfl))
  exact ⟨b, o, e, fun i hi => by
    rw [List.length_map] at hi
    refine ⟨(ps[i]).2, ?_⟩
    have := hx i hi
    rwa [List.getElem_map]⟩
theorem KAt.tks {b : KB} {B : Nat} {w : World} {s : TSet} {k : KS} {ev : Value} {os : List Ow} (h : KAt b B w s k ev os) : Tasks w b.vt s.tasks := by rw [← h.eq]; exact h.tasks.tasks
/-- the state of task m -/
theorem state_any (b : KB) (B : Nat) (s : TSet) (k : KS) (ev : Value) (os : List Ow) (m : Nat) (w : World) (h : KAt b B w s k ev os) (hz : (stAt k.tab m).pend = false → stAt k.tab m = St.zero) :
    Calls Tryz.prog 60 #[.pointer (some ⟨b.gt, 0, none⟩), .int .i64 m] w fun e w' => e = .returned (stV (stAt k.tab m)) ∧ Ext w w' := by
  refine (state_tab b.gt b.gs k.tab m w h.tab).mono ?_
  rintro e w' ⟨rfl, hb⟩
  refine ⟨?_, ⟨hb⟩⟩
  rw [hasB_nat]
  cases hp : (stAt k.tab m).pend with
  | true => rfl
  | false => rw [hz hp]; rfl
def lateP (s : TSet) (k : KS) (m : Nat) : KS := (List.range m).foldl (late1 s) k
theorem lateP_step (s : TSet) (k : KS) (m : Nat) : lateP s k (m + 1) = late1 s (lateP s k m) m := by
  unfold lateP
  rw [List.range_succ, List.foldl_append]
  rfl
theorem late1_same (s : TSet) (k : KS) (i : Nat) : (late1 s k i).tab = k.tab ∧ (late1 s k i).t = k.t ∧ (late1 s k i).evs.length ≤ k.evs.length + 1 := by
  unfold late1
  split
  · exact ⟨rfl, rfl, by simp [KS.tell]⟩
  · exact ⟨rfl, rfl, by omega⟩
theorem lateP_same (s : TSet) (k : KS) (m : Nat) : (lateP s k m).tab = k.tab ∧ (lateP s k m).t = k.t ∧ (lateP s k m).evs.length ≤ k.evs.length + m := by
  induction m with
  | zero => exact ⟨rfl, rfl, Nat.le_refl _⟩
  | succ m ih =>
    obtain ⟨h1, h2, h3⟩ := ih
    rw [lateP_step]
    obtain ⟨g1, g2, g3⟩ := late1_same s (lateP s k m) m
    exact ⟨g1.trans h1, g2.trans h2, by omega⟩
theorem late_any (b : KB) (B : Nat) (s : TSet) (k : KS) (ev : Value) (os : List Ow) (w : World) (hs : KH s) (h : KAt b B w s k ev os)
    (hz : ∀ i, i < s.tasks.length → (stAt k.tab i).pend = false → stAt k.tab i = St.zero) (ha : ∀ i, i < s.tasks.length → (stAt k.tab i).pend = true → 0 ≤ (stAt k.tab i).arr ∧ (stAt k.tab i).arr ≤ k.t)
    (ht : k.t ≤ 1099511627776) (hl : k.evs.length ≤ 100) (hB : B ≤ w.heap.size) :
    Calls Tryz.prog 36 #[.pointer (some ⟨b.gk, 0, none⟩)] w fun e w' => e = .returned (.tuple #[]) ∧ ∃ ev', Stp b B s w ev os w' (lateK s k) ev' os := by
  obtain ⟨A, c, hvt, hcc, hcm, _⟩ := h.tks
  have hbox := h.box
  unfold kcs at hbox
  rw [hvt] at hbox
  have c1 := hbox.cell 1
  have hn8 := hs.len.2
  unfold maxLen at hcm
  simp only [List.getElem?_toArray, List.getElem?_cons_zero, List.getElem?_cons_succ] at c1
  go_enter Tryz.func36, Tryz.ntmps36
  go_wp2_with (fail)
  clear c1 hbox
  go_loopw [11] (fun i wr => ∃ (m : Nat) (ev' : Value), m ≤ s.tasks.length ∧ i = .int .i64 m ∧ Stp b B s w ev os wr (lateP s k m) ev' os) (fun i _ => s.tasks.length - (intOf i).toNat)
  case atStart => exact ⟨0, ev, by omega, rfl, Stp.refl h⟩
  case round =>
    obtain ⟨m, ev1, hm, rfl, hS⟩ := hrel
    by_cases hlt : m < s.tasks.length
    · obtain ⟨e1, e2, e3⟩ := lateP_same s k m
      have hstep := lateP_step s k m
      have hK := hS.at'
      have hT := hK.tks
      rw [hvt] at hT
      obtain ⟨bt, ot, r, rfl, hat⟩ := hT.at hlt
      have hzm := hz m hlt
      have ham := ha m hlt
      have hDm := hs.T m hlt
      rw [tk_at s hlt] at hDm
      have hst := fun w' (hx : Ext wr w') => state_any b B s _ ev1 os m w' (hK.ext hx) (by rw [e1]; exact hzm)
      rw [e1] at hst
      have hbox := hK.box
      unfold kcs at hbox
      have hc5 := fun w' (hx : Ext wr w') => (hbox.ext hx).cell 6
      have hc2 := fun w' (hx : Ext wr w') => (hbox.ext hx).cell 2
      simp only [List.getElem?_toArray, List.getElem?_cons_zero, List.getElem?_cons_succ] at hc5 hc2
      rw [e2] at hc2
      have hlB : late1 s (lateP s k m) m = if (stAt k.tab m).pend && decide ((stAt k.tab m).arr + (s.tasks[m]).D = k.t) then (lateP s k m).tell 3 m 0 else lateP s k m := by
        unfold late1 lateB
        rw [e1, e2, tk_at s hlt]
      rw [hlB] at hstep
      have hN := fun w' (hx : Ext wr w') => notes_any b B s (lateP s k m) ev1 os 3 m 0 w' (hK.ext hx) (by omega) (by have := hS.chg.size; have := hx.size; omega)
      clear hlB hK hbox
      generalize lateP s k m = k1 at *
      generalize s.tasks[m] = tm at *
      generalize stAt k.tab m = x at *
      obtain ⟨q0, q1, q2, q3⟩ := x
      have HS := Lib.hid hS
      have HP := Lib.hid hstep
      have HT := Lib.hid hst
      have HN := Lib.hid hN
      obtain ⟨hIr, t0, t1, t2, t3, t4, t5, t6, t7, t8⟩ := hat
      obtain ⟨Ar, cr, rfl, _, _, hIx⟩ := hIr
      clear hIx
      clear hstep hst hN hS hT
      dsimp only at ham hzm
      have hA := (Ext.refl wr).alloc (.cells #[.string tm.name, .int .i64 tm.T, .int .i64 tm.D, .int .i64 tm.mode, .int .i64 tm.q, .int .i64 tm.theta, .slice Ar tm.regs.length cr, .int .u64 tm.ecb, .int .u64 tm.ucb] 38)
      go_wp2_with (fail)
      refine (HT.out _ hA).mono ?_
      rintro e w1 ⟨rfl, hX1⟩
      unfold stV
      go_upto_region 4 with (fail)
      have hE2 := (hA.trans hX1).alloc (.cells #[.bool q0, .bool q1, .bool q2, .int .i64 q3] 105)
      have hB1 := ((Blk.new wr #[.string tm.name, .int .i64 tm.T, .int .i64 tm.D, .int .i64 tm.mode, .int .i64 tm.q, .int .i64 tm.theta, .slice Ar tm.regs.length cr, .int .u64 tm.ecb, .int .u64 tm.ucb] 38).ext hX1).ext ((Ext.refl w1).alloc (.cells #[.bool q0, .bool q1, .bool q2, .int .i64 q3] 105))
      have hB2 := Blk.new w1 #[.bool q0, .bool q1, .bool q2, .int .i64 q3] 105
      have x2 := hB1.cell 2
      have y0 := hB2.cell 0
      have y3 := hB2.cell 3
      simp only [List.getElem?_toArray, List.getElem?_cons_zero, List.getElem?_cons_succ] at x2 y0 y3
      clear hB1 hB2 hX1 hA t0 t1 t2 t3 t4 t5 t6 t7 t8
      generalize w1.heap.size = g2 at *
      generalize wr.heap.size = g1 at *
      generalize w1.alloc _ = W2 at *
      have z2 := hc2 W2 hE2
      clear hc2 hc5
      have hw : q0 = true → IntKind.i64.wrap (q3 + tm.D) = q3 + tm.D := fun hq => by
        have := ham hq
        rw [IntKind.wrap_i64]; omega
      have hw2 : q0 = true → wrap64 (q3 + tm.D) = q3 + tm.D := fun hq => by
        have := ham hq
        unfold wrap64; omega
      cases q0 with
      | false =>
        clear ham hzm hw hw2
        go_quiet (fail)
        go_wp2_with (fail)
        exact ⟨⟨m + 1, ev1, hlt, rfl, by rw [HP.out]; exact HS.out.ext (hE2.drewN _)⟩, by simp [intOf]; omega⟩
      | true =>
        have hw1 := hw rfl
        have hw3 := hw2 rfl
        obtain ⟨ha1, ha2⟩ := ham rfl
        clear ham hzm hw hw2
        have hHT : (q3 + tm.D == k.t) = decide (q3 + tm.D = k.t) := by rw [Bool.eq_iff_iff]; simp
        cases hd : decide (q3 + tm.D = k.t) with
        | false =>
          rw [hd] at hHT
          go_quiet (fail)
          go_wp2_with (fail)
          exact ⟨⟨m + 1, ev1, hlt, rfl, by rw [HP.out, hd]; exact HS.out.ext (hE2.drewN _)⟩, by simp [intOf]; omega⟩
        | true =>
          rw [hd] at hHT
          have Hd := Lib.hid hd
          clear hd
          go_quiet (fail)
          go_wp2_with (fail)
          refine (HN.out _ (hE2.drewN _)).mono ?_
          rintro e w5 ⟨rfl, ev2, hS2⟩
          go_wp2_with (fail)
          exact ⟨⟨m + 1, ev2, hlt, rfl, by rw [HP.out, Hd.out]; exact (HS.out.ext (hE2.drewN _)).trans hS2⟩, by simp [intOf]; omega⟩
    · have hme : m = s.tasks.length := by omega
      subst hme
      go_wp2_with (fail)
      refine bodyPost_end (v := .tuple #[]) (results_none Tryz.results36 _ _ _) rfl ⟨rfl, ev1, hS⟩
end Go.Proofs.YtniejidekflmiaaGreatDoor
/- The kernel: tasks come. -/
namespace Go.Proofs.YtniejidekflmiaaGreatDoor
open Go.RowKit
attribute [local go_sem] setCell_twice Ext.alloc Ext.drew
set_option linter.unusedSimpArgs false
set_option linter.unusedVariables false
set_option maxRecDepth 100000
set_option maxHeartbeats 400000
attribute [local irreducible] Calls

def arriveB (s : TSet) (x : Inp) (k : KS) (i : Nat) : KS := if earlyB s k i = true then k.tell 2 i 1 else if (stAt k.tab i).pend = true then k.tell 2 i 2 else admitK s x k i
def arrQ1 (s : TSet) (x : Inp) (k : KS) (c : Int) : KS := if c < s.tasks.length then arriveB s x k c.toNat else k
def arrQ (s : TSet) (x : Inp) (k : KS) (l : List Int) : KS := l.foldl (arrQ1 s x) k
theorem arrQ_all (s : TSet) (x : Inp) (k : KS) (hn : s.tasks.length ≤ 64) : arrQ s x k (bitsL x.arrive 64) = arriveK s x k := by
  have key : ∀ p, arrQ s x k (bitsL x.arrive p) = (List.range (min p s.tasks.length)).foldl (arrive1 s x) k := by
    intro p
    induction p with
    | zero => simp [arrQ, bitsL]
    | succ p ih =>
      rw [bitsL_step]
      by_cases hp : p < s.tasks.length
      · rw [show min (p + 1) s.tasks.length = p + 1 by omega, List.range_succ, List.foldl_append]
        rw [show min p s.tasks.length = p by omega] at ih
        rw [← ih]
        cases hb : x.arrive.testBit p with
        | false => simp [arrive1, hb]
        | true =>
          rw [cond_true]
          unfold arrQ
          rw [List.foldl_append]
          simp only [List.foldl_cons, List.foldl_nil, arrQ1, arrive1, hb]
          rw [if_pos (by omega), Int.toNat_natCast, if_neg (by decide)]
          rfl
      · rw [show min (p + 1) s.tasks.length = min p s.tasks.length by omega, ← ih]
        cases hb : x.arrive.testBit p with
        | false => rfl
        | true =>
          rw [cond_true]
          unfold arrQ
          rw [List.foldl_append]
          simp only [List.foldl_cons, List.foldl_nil, arrQ1]
          rw [if_neg (by omega)]
  rw [key, show min 64 s.tasks.length = s.tasks.length by omega]
  rfl
theorem arrQ_step (s : TSet) (x : Inp) (k : KS) (l : List Int) {m : Nat} (hm : m < l.length) : arrQ s x k (l.take (m + 1)) = arrQ1 s x (arrQ s x k (l.take m)) l[m] := by
  unfold arrQ
  rw [List.take_succ_eq_append_getElem hm, List.foldl_append]
  rfl
theorem arriveB_keep {s : TSet} (hs : KH s) {P : List Ev} (x : Inp) {k : KS} (h : LB s P k) {i : Nat} (hi : i < s.tasks.length) : LB s P (arriveB s x k i) ∧ (arriveB s x k i).t = k.t ∧ (arriveB s x k i).evs.length = k.evs.length + 1 := by
  unfold arriveB
  split
  · exact ⟨h.tell (.inl rfl) (okEv_task (by omega) (by omega)), rfl, by simp [KS.tell]⟩
  · split
    · exact ⟨h.tell (.inl rfl) (okEv_task (by omega) (by omega)), rfl, by simp [KS.tell]⟩
    · rename_i hp
      exact ⟨h.admit hs x hi (by simpa using hp), rfl, by simp [admitK, KS.tell]⟩
theorem arrQ_keep {s : TSet} (hs : KH s) {P : List Ev} (x : Inp) {k : KS} (h : LB s P k) (l : List Int) (hl : ∀ c ∈ l, 0 ≤ c) : LB s P (arrQ s x k l) ∧ (arrQ s x k l).t = k.t ∧ (arrQ s x k l).evs.length ≤ k.evs.length + l.length := by
  induction l generalizing k with
  | nil => exact ⟨h, rfl, Nat.le_refl _⟩
  | cons c l ih =>
    have e : arrQ s x k (c :: l) = arrQ s x (arrQ1 s x k c) l := rfl
    rw [e]
    have h1 : LB s P (arrQ1 s x k c) ∧ (arrQ1 s x k c).t = k.t ∧ (arrQ1 s x k c).evs.length ≤ k.evs.length + 1 := by
      unfold arrQ1
      split
      · rename_i hc
        have h0 := hl c (by simp)
        obtain ⟨a, b, d⟩ := arriveB_keep hs x h (i := c.toNat) (by omega)
        exact ⟨a, b, by omega⟩
      · exact ⟨h, rfl, by omega⟩
    obtain ⟨a, b, d⟩ := ih h1.1 (fun c hc => hl c (by simp [hc]))
    exact ⟨a, b.trans h1.2.1, by have := h1.2.2; simp only [List.length_cons]; omega⟩
theorem polL_at (s : TSet) (k : KS) {i : Nat} (hi : i < s.tasks.length) : ∃ h : i < (polL s k).length, (polL s k)[i] = ((s.tk i).T, k.pol.getD i (-1)) := by
  refine ⟨by simp [polL, hi], ?_⟩
  simp [polL]
theorem early_eq (s : TSet) (k : KS) {i : Nat} (hi : i < s.tasks.length) (h : i < (polL s k).length) : earlyP ((polL s k)[i]) k.t = earlyB s k i := by
  obtain ⟨_, e⟩ := polL_at s k hi
  rw [e]
  rfl
theorem polL_set (s : TSet) (k : KS) {i : Nat} (hi : i < s.tasks.length) (hp : k.pol.length = s.tasks.length) (h : i < (polL s k).length) (t : Int) : (polL s k).set i ((polL s k)[i].1, t) = polL s { k with pol := k.pol.set i t } := by
  obtain ⟨_, e⟩ := polL_at s k hi
  rw [e]
  refine List.ext_getElem (by simp [polL]) fun j h1 h2 => ?_
  have hj : j < s.tasks.length := by simpa [polL] using h2
  rw [List.getElem_set]
  simp only [polL, List.getElem_map, List.getElem_range]
  rw [getD_set (by omega)]
  split
  · rename_i e; subst e; rfl
  · rfl
/-- three stores into a row of the kernel's -/
theorem row_put {w : World} {g : Nat} {os : List Ow} (h : RowBk encOw w g 133 os) {i : Nat} (hi : i < os.length) (x : Ow) :
    RowBk encOw (((w.setCell ⟨g, i * 3, none⟩ x.ptr).setCell ⟨g, i * 3 + 1, none⟩ (.int .u64 x.had)).setCell ⟨g, i * 3 + 2, none⟩ (.int .i64 x.load)) g 133 (os.set i x) := by
  have a0 := h.set encOw_len (i := i) (j := 0) (u := x.ptr) (x' := { os[i] with p := x.p }) (by decide) (fun _ => rfl)
  have a1 := a0.set encOw_len (i := i) (j := 1) (u := .int .u64 x.had) (x' := { os[i] with p := x.p, had := x.had }) (by decide) (fun _ => by rw [List.getElem_set_self]; rfl)
  have a2 := a1.set encOw_len (i := i) (j := 2) (u := .int .i64 x.load) (x' := x) (by decide) (fun _ => by rw [List.getElem_set_self]; rfl)
  simp only [List.set_set] at a2
  exact a2
theorem owAt_set {os : List Ow} {i j : Nat} {x : Ow} (hi : i < os.length) : owAt (os.set i x) j = if i = j then x else owAt os j := by
  unfold owAt
  exact getD_set hi
/-- a new job for task m -/
theorem KAt.newJob {b : KB} {B : Nat} {w w' w2 : World} {s : TSet} {k : KS} {ev : Value} {os : List Ow} (h : KAt b B w s k ev os) {m g : Nat} {x : Jb} (hm : m < s.tasks.length) (hj : k.jobs.length = s.tasks.length) (hst : (stAt k.tab m).start = false)
    (hx : Ext w w') (hg : w.heap.size ≤ g) (hJ : JobAt w' w.heap.size g x) (hc : Chg (fun q => q = b.go) w' w2) (hT : RowBk encOw w2 b.go 133 (os.set m ⟨some g, 0, 0⟩)) : KAt b B w2 s { k with jobs := k.jobs.set m x } ev (os.set m ⟨some g, 0, 0⟩) := by
  have h1 := h.ext hx
  have hF := FT.one (w := w') (show Blk w' b.go _ 133 from h1.row)
  have hl := h.rl
  exact { h1 with
    box := h1.kBox hc hF rfl, tasks := h1.kTasks hc hF rfl rfl, pol := h1.kPol hc hF rfl rfl, cache := h1.kCache hc hF rfl, tab := h1.kTab hc hF rfl rfl, row := hT, rl := by rw [List.length_set]; exact hl
    jobs := fun i hi g' hg' => by
      dsimp only
      rw [owAt_set (by omega)] at hg'
      rw [getD_set (by omega)]
      by_cases e : m = i
      · rw [if_pos e] at hg' ⊢
        have e2 : g = g' := Option.some.inj hg'
        subst e2
        obtain ⟨cs, hB⟩ := hJ.blk
        exact (hJ.lower h.bas).chg hc (hF.no hB rfl) (fun q cs _ hq => hF.no hq rfl)
      · rw [if_neg e] at hg' ⊢
        exact h1.kJobs hc hF rfl rfl i hi g' hg'
    sep := fun i j hi hj' hne g' hg' => by
      rw [owAt_set (by omega)] at hg' ⊢
      have hfar : ∀ i, i < s.tasks.length → ∀ g', (owAt os i).p = some g' → g' ≠ g := fun i hi g' hg' e => by
        obtain ⟨cs, hB⟩ := (h.jobs i hi g' hg').blk
        have := hB.lt
        omega
      by_cases e : m = i
      · rw [if_pos e] at hg'
        rw [if_neg (by omega)]
        have e2 : g = g' := Option.some.inj hg'
        subst e2
        intro hh
        exact hfar j hj' _ hh rfl
      · rw [if_neg e] at hg'
        by_cases e2 : m = j
        · rw [if_pos e2]
          intro hh
          exact hfar i hi _ hg' (Option.some.inj hh).symm
        · rw [if_neg e2]
          exact h.sep i j hi hj' hne g' hg'
    evs := h1.kEvs hc hF rfl
    loose := fun i hi hst' => by
      rw [owAt_set (by omega)]
      by_cases e : m = i
      · subst e
        have hst2 : (stAt k.tab m).start = true := hst'
        rw [hst] at hst2; cases hst2
      · rw [if_neg e]
        exact h.loose i hi hst'
    bas := Nat.le_trans h1.bas hc.size }
end Go.Proofs.YtniejidekflmiaaGreatDoor
/- The kernel: tasks come, walked. -/
namespace Go.Proofs.YtniejidekflmiaaGreatDoor
open Go.RowKit
attribute [local go_sem] setCell_twice Ext.alloc Ext.drew
set_option linter.unusedSimpArgs false
set_option linter.unusedVariables false
set_option maxRecDepth 100000
set_option maxHeartbeats 400000
attribute [local irreducible] Calls

theorem callE {P : Program} {f : FuncId} {args : Array Value} {w0 w : World} {u : Value} (hX : Ext w0 w) (h : Calls P f args w fun e w' => e = .returned u ∧ Ext w w') : Calls P f args w fun e w' => e = .returned u ∧ Ext w0 w' :=
  h.mono fun _ _ ⟨he, hb⟩ => ⟨he, hX.trans hb⟩
theorem arrive_any (b : KB) (B : Nat) (s : TSet) (k : KS) (ev : Value) (os : List Ow) (P : List Ev) (x : Inp) (vd : Value) (L : Nat → Prop) (w : World) (hs : KH s) (h : KAt b B w s k ev os) (hLB : LB s P k) (hHP : HasP s k os)
    (hxa : x.arrive < 18446744073709551616) (hL : ∀ q, L q → q < w.heap.size) (hlow : ∀ q, foot b os ev q → ¬ L q) (hD : ∀ w', Same L w w' → DB w') (hdem : ∀ w', Same L w w' → SlR DemR 1 Any w' vd x.dems)
    (ht : k.t ≤ 1099511627776) (hl : k.evs.length ≤ 100) (hB : B ≤ w.heap.size) :
    Calls Tryz.prog 37 #[.pointer (some ⟨b.gk, 0, none⟩), .agg #[.int .u64 x.arrive, vd, .int .u64 x.touch]] w fun e w' => e = .returned (.tuple #[]) ∧ ∃ ev' os', Stp b B s w ev os w' (arriveK s x k) ev' os' ∧ HasP s (arriveK s x k) os' := by
  have hAll := arrQ_all s x k (by have := hs.len.2; omega)
  rw [← hAll]
  obtain ⟨A, c, hvt, hcc, hcm, _⟩ := h.tks
  obtain ⟨Ad, cd, hvd, _, _⟩ := (hdem w (fun _ _ => rfl)).form
  subst hvd
  have hn8 := hs.len.2
  unfold maxLen at hcm
  have hA := (Ext.refl w).alloc (.cells #[.int .u64 x.arrive, .slice Ad x.dems.length cd, .int .u64 x.touch] 57)
  have hBL := bits_list x.arrive hxa _ (hD _ (.of_ext hL hA))
  have hbi0 := Blk.new w #[.int .u64 x.arrive, .slice Ad x.dems.length cd, .int .u64 x.touch] 57
  have HBL := Lib.hid hBL
  clear hBL hAll
  go_enter Tryz.func37, Tryz.ntmps37
  go_wp2_with (fail)
  refine HBL.out.mono ?_
  rintro e w1 ⟨vl, rfl, hO0, hb0⟩
  have hX0 := hA.trans ⟨hb0⟩
  have hbi1 := hbi0.ext ⟨hb0⟩
  clear hA hb0 HBL hbi0
  have hbl : ∀ (m : Nat) (hm : m < (bitsL x.arrive 64).length), ∃ d : Nat, (bitsL x.arrive 64)[m] = d ∧ d < 64 := fun m hm => bitsL_at x.arrive 64 hm
  have hl64 := bitsL_le x.arrive 64
  have hnn : ∀ c ∈ bitsL x.arrive 64, 0 ≤ c := fun c hc => by
    obtain ⟨i, hi, rfl⟩ := List.mem_iff_getElem.1 hc
    obtain ⟨d, e, _⟩ := bitsL_at x.arrive 64 hi
    omega
  rw [size_alloc] at hO0
  generalize hle : bitsL x.arrive 64 = l at *
  have HLE := Lib.hid hle
  clear hle
  generalize w.heap.size + 1 = base at *
  obtain ⟨Al, cl, rfl⟩ := OwnL.slice hO0
  generalize hgi : w.heap.size = gi at *
  go_wp2_with (fail)
  go_loopw [11] (fun i wr => ∃ (m : Nat) (ev' : Value) (os' : List Ow), m ≤ l.length ∧ i = .int .i64 m ∧ Stp b B s w ev os wr (arrQ s x k (l.take m)) ev' os' ∧ HasP s (arrQ s x k (l.take m)) os' ∧ Blk wr gi #[.int .u64 x.arrive, .slice Ad x.dems.length cd, .int .u64 x.touch] 57 ∧ OwnL encN wr base 3 1 (.slice Al l.length cl) l) (fun i _ => l.length - (intOf i).toNat)
  case atStart => exact ⟨0, ev, os, by omega, rfl, (Stp.refl h).ext hX0, hHP, hbi1, hO0⟩
  case round =>
    obtain ⟨m, ev1, os1, hm, rfl, hS, hHP1, hbi, hO⟩ := hrel
    clear hX0 hbi1 hO0
    by_cases hlt : m < l.length
    · obtain ⟨d, ed, hd64⟩ := hbl m hlt
      have hst := arrQ_step s x k l hlt
      rw [ed] at hst
      obtain ⟨hLB1, ht1, hlen1⟩ := arrQ_keep hs x hLB (l.take m) (fun c hc => hnn c (List.mem_of_mem_take hc))
      rw [List.length_take] at hlen1
      obtain ⟨bl, ol, rfl, hxl⟩ := (OwnL.ints hO).at hlt
      rw [ed] at hxl
      have hK := hS.at'
      have hbox := hK.box
      unfold kcs at hbox
      rw [hvt] at hbox
      generalize arrQ s x k (l.take m) = k1 at *
      rw [ht1] at hbox
      have hc : ∀ w', Ext wr w' → ∀ j, w'.cell? ⟨b.gk, j, none⟩ = #[.int .i64 s.reload, .slice A s.tasks.length c, .int .i64 k.t, .int .i64 k1.ran, .pointer (some ⟨b.gp, 0, none⟩), .pointer (some ⟨b.gc, 0, none⟩), .pointer (some ⟨b.gt, 0, none⟩), .slice (some ⟨b.go, 0, none⟩) s.tasks.length s.tasks.length, ev1][j]? := fun w' hx => (hbox.ext hx).cell
      have hc0 := hc wr (Ext.refl _)
      have hsz : w.heap.size ≤ wr.heap.size := hS.chg.size
      have hxl0 := hxl wr (Ext.refl _)
      have hbic := hbi.cell
      have HEnd : ∀ (ev2 : Value) (os2 : List Ow) (W : World), Stp b B s wr ev1 os1 W (arrQ s x k (l.take (m + 1))) ev2 os2 → HasP s (arrQ s x k (l.take (m + 1))) os2 →
          Blk W gi #[.int .u64 x.arrive, .slice Ad x.dems.length cd, .int .u64 x.touch] 57 ∧ OwnL encN W base 3 1 (.slice (some ⟨bl, ol, none⟩) l.length cl) l ∧ Stp b B s w ev os W (arrQ s x k (l.take (m + 1))) ev2 os2 := fun ev2 os2 W h2 _ => by
        have hF := hK.footT
        exact ⟨hbi.chg h2.chg (hF.no hbi rfl), hO.chg h2.chg (hF.own hO rfl), hS.trans h2⟩
      have HEND := Lib.hid HEnd
      have HK := Lib.hid hK
      have HS := Lib.hid hS
      have HST := Lib.hid hst
      have HHP := Lib.hid hHP1
      clear HEnd hK hst hbox hS hxl hHP1 hbl hnn
      by_cases hdn : d < s.tasks.length
      · have hE := HST.out
        unfold arrQ1 at hE
        rw [if_pos (by omega), Int.toNat_natCast] at hE
        have hdd : decide ((s.tasks.length : Int) ≤ (d : Int)) = false := decide_eq_false (by omega)
        obtain ⟨hpi, _⟩ := polL_at s k1 hdn
        have hEarly := fun w' (hx : Ext wr w') => early_pol b.gp d b.vp (polL s k1) k1.t w' (HK.out.pol.ext hx) hpi (by rw [ht1]; have := hLB.inv.t; exact this) (by rw [ht1]; omega)
        rw [early_eq s k1 hdn hpi, ht1] at hEarly
        have HEA := Lib.hid hEarly
        clear hEarly
        unfold arriveB at hE
        cases hEb : earlyB s k1 d with
        | true =>
          rw [if_pos hEb] at hE
          have HE := Lib.hid hE
          clear hE
          rw [hEb] at HEA
          have HB := Lib.hid hEb
          clear hEb
          go_upto_region 11 with (fail)
          refine wp_region_all (S := Ext wr) (by kernel_rfl) (by kernel_rfl) (Ext.refl wr).drew (fun K hK => ?_); (repeat (first | (apply hO_and; (· rfl); (· rfl); (· rfl); (· rfl); simp only [Act.put, List.setIfInBounds_toArray, List.set_cons_zero, List.set_cons_succ]) | (apply hO_or; (· rfl); (· rfl); (· rfl); (· rfl); simp only [Act.put, List.setIfInBounds_toArray, List.set_cons_zero, List.set_cons_succ]) | (apply hO_off; (· rfl); (· rfl); simp only [Act.put, List.setIfInBounds_toArray, List.set_cons_zero, List.set_cons_succ]) | (apply hO_val; (· intro w hS; go_simp; with_reducible rfl); (· rfl); simp only [Act.put, List.setIfInBounds_toArray, List.set_cons_zero, List.set_cons_succ]) | (apply hO_call; (· rfl); (· intro w hS; go_simp; exact ⟨rfl, rfl⟩); (· intro w hS; exact callE hS (HEA.out _ hS)); simp only [Act.put, List.setIfInBounds_toArray, List.set_cons_zero, List.set_cons_succ]) | (apply hO_if; (· rfl); (· rfl); (· intro hif w hS; go_simp; with_reducible rfl); simp only [Act.put, List.setIfInBounds_toArray, List.set_cons_zero, List.set_cons_succ]) | (apply hO_ifcall; (· rfl); (· rfl); (· intro hif w hS; go_simp; exact ⟨rfl, rfl⟩); (· intro hif w hS; exact callE hS (HEA.out _ hS)); simp only [Act.put, List.setIfInBounds_toArray, List.set_cons_zero, List.set_cons_succ]))); refine hO_nil ?_; refine hK _ ?_; clear hK K
          intro W2 hX2
          go_wp2_with (fail)
          refine (notes_any b B s k1 ev1 os1 2 d 1 W2 (HK.out.ext hX2) (by omega) (by have := hX2.size; omega)).mono ?_
          rintro e W3 ⟨rfl, ev2, hS2⟩
          go_wp2_with (fail)
          have hhp : HasP s (k1.tell 2 d 1) os1 := HHP.out
          obtain ⟨e1, e2, e3⟩ := HEND.out ev2 os1 W3 (by rw [HE.out]; exact ((Stp.refl HK.out).ext hX2).trans hS2) (by rw [HE.out]; exact hhp)
          exact ⟨⟨m + 1, ev2, os1, hlt, rfl, e3, by rw [HE.out]; exact hhp, e1, e2⟩, by simp [intOf]; omega⟩
        | false =>
          rw [if_neg (by rw [hEb]; decide)] at hE
          rw [hEb] at HEA
          have HB := Lib.hid hEb
          clear hEb
          have htl := hLB1.inv.lt
          cases hpe : (stAt k1.tab d).pend with
          | true =>
            rw [if_pos hpe] at hE
            have HE := Lib.hid hE
            clear hE
            have hPut := fun w' (hx : Ext wr w') => put_tab b.gt b.gs k1.tab d k.t w' (HK.out.tab.ext hx) (by omega)
            rw [hpe, if_pos rfl] at hPut
            have HPut := Lib.hid hPut
            clear hPut
            go_upto_region 11 with (fail)
            refine wp_region_all (S := Ext wr) (by kernel_rfl) (by kernel_rfl) (Ext.refl wr).drew (fun K hK => ?_); (repeat (first | (apply hO_and; (· rfl); (· rfl); (· rfl); (· rfl); simp only [Act.put, List.setIfInBounds_toArray, List.set_cons_zero, List.set_cons_succ]) | (apply hO_or; (· rfl); (· rfl); (· rfl); (· rfl); simp only [Act.put, List.setIfInBounds_toArray, List.set_cons_zero, List.set_cons_succ]) | (apply hO_off; (· rfl); (· rfl); simp only [Act.put, List.setIfInBounds_toArray, List.set_cons_zero, List.set_cons_succ]) | (apply hO_val; (· intro w hS; go_simp; with_reducible rfl); (· rfl); simp only [Act.put, List.setIfInBounds_toArray, List.set_cons_zero, List.set_cons_succ]) | (apply hO_call; (· rfl); (· intro w hS; go_simp; exact ⟨rfl, rfl⟩); (· intro w hS; exact callE hS (HEA.out _ hS)); simp only [Act.put, List.setIfInBounds_toArray, List.set_cons_zero, List.set_cons_succ]) | (apply hO_if; (· rfl); (· rfl); (· intro hif w hS; go_simp; with_reducible rfl); simp only [Act.put, List.setIfInBounds_toArray, List.set_cons_zero, List.set_cons_succ]) | (apply hO_ifcall; (· rfl); (· rfl); (· intro hif w hS; go_simp; exact ⟨rfl, rfl⟩); (· intro hif w hS; exact callE hS (HEA.out _ hS)); simp only [Act.put, List.setIfInBounds_toArray, List.set_cons_zero, List.set_cons_succ]))); refine hO_nil ?_; refine hK _ ?_; clear hK K
            intro W2 hX2
            go_upto_region 13 with (fail)
            refine wp_region_text (n := 9) (S := Ext wr) (by kernel_rfl) (by kernel_rfl) hX2.drew (fun K hK => ?_)
            (repeat (first | (apply hO_and; (· rfl); (· rfl); (· rfl); (· rfl); simp only [Act.put, List.setIfInBounds_toArray, List.set_cons_zero, List.set_cons_succ]) | (apply hO_or; (· rfl); (· rfl); (· rfl); (· rfl); simp only [Act.put, List.setIfInBounds_toArray, List.set_cons_zero, List.set_cons_succ]) | (apply hO_off; (· rfl); (· rfl); simp only [Act.put, List.setIfInBounds_toArray, List.set_cons_zero, List.set_cons_succ]) | (apply hO_val; (· intro w hS; go_simp; with_reducible rfl); (· rfl); simp only [Act.put, List.setIfInBounds_toArray, List.set_cons_zero, List.set_cons_succ]) | (apply hO_call; (· rfl); (· intro w hS; go_simp; exact ⟨rfl, rfl⟩); (· intro w hS; fail); simp only [Act.put, List.setIfInBounds_toArray, List.set_cons_zero, List.set_cons_succ]) | (apply hO_if; (· rfl); (· rfl); (· intro hif w hS; go_simp; with_reducible rfl); simp only [Act.put, List.setIfInBounds_toArray, List.set_cons_zero, List.set_cons_succ]) | (apply hO_ifcall; (· rfl); (· rfl); (· intro hif w hS; go_simp; exact ⟨rfl, rfl⟩); (· intro hif w hS; fail); simp only [Act.put, List.setIfInBounds_toArray, List.set_cons_zero, List.set_cons_succ]))); refine hO_nil ?_
            refine hK _ ?_
            clear hK K
            intro W3 hX3
            simp only [List.drop_succ_cons, List.drop_zero]
            go_wp2_with (fail)
            refine (HPut.out W3 hX3).mono ?_
            rintro e W4 ⟨rfl, hT4, hC4⟩
            have hK4 : KAt b B W4 s k1 ev1 os1 := (HK.out.ext hX3).setTab hC4 hT4 HK.out.loose
            have hS4 : Stp b B s wr ev1 os1 W4 k1 ev1 os1 := ⟨hK4, ((Chg.of_ext hX3).trans hC4).to (fun q _ hq => .inr (.inl hq)), fun q hq => .inl hq⟩
            go_wp2_with (fail)
            refine (notes_any b B s k1 ev1 os1 2 d 2 W4 hK4 (by omega) (by have := hS4.chg.size; omega)).mono ?_
            rintro e W5 ⟨rfl, ev2, hS5⟩
            go_wp2_with (fail)
            have hhp : HasP s (k1.tell 2 d 2) os1 := HHP.out
            obtain ⟨e1, e2, e3⟩ := HEND.out ev2 os1 W5 (by rw [HE.out]; exact hS4.trans hS5) (by rw [HE.out]; exact hhp)
            exact ⟨⟨m + 1, ev2, os1, hlt, rfl, e3, by rw [HE.out]; exact hhp, e1, e2⟩, by simp [intOf]; omega⟩
          | false =>
            rw [if_neg (by rw [hpe]; decide)] at hE
            have HE := Lib.hid hE
            clear hE
            have hPut := fun w' (hx : Ext wr w') => put_tab b.gt b.gs k1.tab d k.t w' (HK.out.tab.ext hx) (by omega)
            rw [hpe, if_neg (by decide)] at hPut
            have HPut := Lib.hid hPut
            clear hPut
            have HPE := Lib.hid hpe
            clear hpe
            go_upto_region 11 with (fail)
            refine wp_region_all (S := Ext wr) (by kernel_rfl) (by kernel_rfl) (Ext.refl wr).drew (fun K hK => ?_); (repeat (first | (apply hO_and; (· rfl); (· rfl); (· rfl); (· rfl); simp only [Act.put, List.setIfInBounds_toArray, List.set_cons_zero, List.set_cons_succ]) | (apply hO_or; (· rfl); (· rfl); (· rfl); (· rfl); simp only [Act.put, List.setIfInBounds_toArray, List.set_cons_zero, List.set_cons_succ]) | (apply hO_off; (· rfl); (· rfl); simp only [Act.put, List.setIfInBounds_toArray, List.set_cons_zero, List.set_cons_succ]) | (apply hO_val; (· intro w hS; go_simp; with_reducible rfl); (· rfl); simp only [Act.put, List.setIfInBounds_toArray, List.set_cons_zero, List.set_cons_succ]) | (apply hO_call; (· rfl); (· intro w hS; go_simp; exact ⟨rfl, rfl⟩); (· intro w hS; exact callE hS (HEA.out _ hS)); simp only [Act.put, List.setIfInBounds_toArray, List.set_cons_zero, List.set_cons_succ]) | (apply hO_if; (· rfl); (· rfl); (· intro hif w hS; go_simp; with_reducible rfl); simp only [Act.put, List.setIfInBounds_toArray, List.set_cons_zero, List.set_cons_succ]) | (apply hO_ifcall; (· rfl); (· rfl); (· intro hif w hS; go_simp; exact ⟨rfl, rfl⟩); (· intro hif w hS; exact callE hS (HEA.out _ hS)); simp only [Act.put, List.setIfInBounds_toArray, List.set_cons_zero, List.set_cons_succ]))); refine hO_nil ?_; refine hK _ ?_; clear hK K
            intro W2 hX2
            go_upto_region 13 with (fail)
            refine wp_region_text (n := 9) (S := Ext wr) (by kernel_rfl) (by kernel_rfl) hX2.drew (fun K hK => ?_)
            (repeat (first | (apply hO_and; (· rfl); (· rfl); (· rfl); (· rfl); simp only [Act.put, List.setIfInBounds_toArray, List.set_cons_zero, List.set_cons_succ]) | (apply hO_or; (· rfl); (· rfl); (· rfl); (· rfl); simp only [Act.put, List.setIfInBounds_toArray, List.set_cons_zero, List.set_cons_succ]) | (apply hO_off; (· rfl); (· rfl); simp only [Act.put, List.setIfInBounds_toArray, List.set_cons_zero, List.set_cons_succ]) | (apply hO_val; (· intro w hS; go_simp; with_reducible rfl); (· rfl); simp only [Act.put, List.setIfInBounds_toArray, List.set_cons_zero, List.set_cons_succ]) | (apply hO_call; (· rfl); (· intro w hS; go_simp; exact ⟨rfl, rfl⟩); (· intro w hS; fail); simp only [Act.put, List.setIfInBounds_toArray, List.set_cons_zero, List.set_cons_succ]) | (apply hO_if; (· rfl); (· rfl); (· intro hif w hS; go_simp; with_reducible rfl); simp only [Act.put, List.setIfInBounds_toArray, List.set_cons_zero, List.set_cons_succ]) | (apply hO_ifcall; (· rfl); (· rfl); (· intro hif w hS; go_simp; exact ⟨rfl, rfl⟩); (· intro hif w hS; fail); simp only [Act.put, List.setIfInBounds_toArray, List.set_cons_zero, List.set_cons_succ]))); refine hO_nil ?_
            refine hK _ ?_
            clear hK K
            intro W3 hX3
            simp only [List.drop_succ_cons, List.drop_zero]
            go_wp2_with (fail)
            refine (HPut.out W3 hX3).mono ?_
            rintro e W4 ⟨rfl, hT4, hC4⟩
            have hx4 : ∀ j, stAt (k1.tab.set d ⟨true, false, false, k.t⟩) j = if d = j then ⟨true, false, false, k.t⟩ else stAt k1.tab j := fun j => stAt_set (by omega)
            have hK4 : KAt b B W4 s { k1 with tab := k1.tab.set d ⟨true, false, false, k.t⟩ } ev1 os1 := (HK.out.ext hX3).setTab hC4 hT4 (fun i hi hst => by
              rw [hx4] at hst
              by_cases e : d = i
              · rw [if_pos e] at hst; cases hst
              · rw [if_neg e] at hst; exact HK.out.loose i hi hst)
            have hS4 : Stp b B s wr ev1 os1 W4 { k1 with tab := k1.tab.set d ⟨true, false, false, k.t⟩ } ev1 os1 := ⟨hK4, ((Chg.of_ext hX3).trans hC4).to (fun q _ hq => .inr (.inl hq)), fun q hq => .inl hq⟩
            have HX4 := Lib.hid hx4
            clear hx4
            go_wp2_with (fail)
            refine (notes_any b B s _ ev1 os1 1 d 0 W4 hK4 (by dsimp only; omega) (by have := hS4.chg.size; omega)).mono ?_
            rintro e W5 ⟨rfl, ev2, hS5⟩
            have hS6 := hS4.trans hS5
            have HS6 := Lib.hid hS6
            have HK6 := Lib.hid hS5.at'
            have hbox6 := hS5.at'.box
            clear hS6 hS5 hS4 hK4 hT4 hC4 hX3 hX2
            unfold kcs at hbox6
            rw [hvt] at hbox6
            simp only [KS.tell] at hbox6
            rw [ht1] at hbox6
            have hc6 : ∀ w', Ext W5 w' → ∀ j, w'.cell? ⟨b.gk, j, none⟩ = #[.int .i64 s.reload, .slice A s.tasks.length c, .int .i64 k.t, .int .i64 k1.ran, .pointer (some ⟨b.gp, 0, none⟩), .pointer (some ⟨b.gc, 0, none⟩), .pointer (some ⟨b.gt, 0, none⟩), .slice (some ⟨b.go, 0, none⟩) s.tasks.length s.tasks.length, ev2][j]? := fun w' hx => (hbox6.ext hx).cell
            have hE0 : earlyP ((polL s k1)[d]) k.t = false := by rw [← ht1, early_eq s k1 hdn hpi]; exact HB.out
            have hNote := fun w' (hx : Ext W5 w') => note_pol b.gp d b.vp (polL s k1) k.t w' (HK6.out.pol.ext hx) hpi (by have := hLB.inv.t; exact this) (by omega) hE0
            rw [← ht1, polL_set s k1 hdn hLB1.inv.lp hpi, ht1] at hNote
            have HNote := Lib.hid hNote
            clear hNote hbox6
            go_upto_region 5 with (fail)
            refine wp_region_text (n := 9) (S := Ext W5) (by kernel_rfl) (by kernel_rfl) (Ext.refl W5).drew (fun K hK => ?_)
            (repeat (first | (apply hO_and; (· rfl); (· rfl); (· rfl); (· rfl); simp only [Act.put, List.setIfInBounds_toArray, List.set_cons_zero, List.set_cons_succ]) | (apply hO_or; (· rfl); (· rfl); (· rfl); (· rfl); simp only [Act.put, List.setIfInBounds_toArray, List.set_cons_zero, List.set_cons_succ]) | (apply hO_off; (· rfl); (· rfl); simp only [Act.put, List.setIfInBounds_toArray, List.set_cons_zero, List.set_cons_succ]) | (apply hO_val; (· intro w hS; go_simp; with_reducible rfl); (· rfl); simp only [Act.put, List.setIfInBounds_toArray, List.set_cons_zero, List.set_cons_succ]) | (apply hO_call; (· rfl); (· intro w hS; go_simp; exact ⟨rfl, rfl⟩); (· intro w hS; fail); simp only [Act.put, List.setIfInBounds_toArray, List.set_cons_zero, List.set_cons_succ]) | (apply hO_if; (· rfl); (· rfl); (· intro hif w hS; go_simp; with_reducible rfl); simp only [Act.put, List.setIfInBounds_toArray, List.set_cons_zero, List.set_cons_succ]) | (apply hO_ifcall; (· rfl); (· rfl); (· intro hif w hS; go_simp; exact ⟨rfl, rfl⟩); (· intro hif w hS; fail); simp only [Act.put, List.setIfInBounds_toArray, List.set_cons_zero, List.set_cons_succ]))); refine hO_nil ?_
            refine hK _ ?_
            clear hK K
            intro W6 hX6
            simp only [List.drop_succ_cons, List.drop_zero]
            go_wp2_with (fail)
            refine (HNote.out W6 hX6).mono ?_
            rintro e W7 ⟨rfl, hP7, hC7⟩
            have hK7 := (HK6.out.ext hX6).setPol hC7 hP7
            have hS7 : Stp b B s wr ev1 os1 W7 { (({ k1 with tab := k1.tab.set d ⟨true, false, false, k.t⟩ } : KS).tell 1 d 0) with pol := k1.pol.set d k.t } ev2 os1 := (HS6.out.ext hX6).trans ⟨hK7, hC7.to (fun q _ hq => .inr (.inr (.inr (.inr (.inl hq))))), fun q hq => .inl hq⟩
            have hbi7 := hbi.chg hS7.chg (HK.out.footT.no hbi rfl)
            have hbic7 := hbi7.cell
            have hdm := hdem W7 ((HS.out.trans hS7).same (fun q hq => by rw [hgi]; exact hL q hq) hlow)
            have HS7 := Lib.hid hS7
            have HK7 := Lib.hid hK7
            clear hC7 hP7 hX6 hc6 hS7 hK7 HNote HS6 HK6 hbic hc hc0
            by_cases hdl : d < x.dems.length
            · have hd1 : decide ((d : Int) < (x.dems.length : Int)) = true := decide_eq_true (by omega)
              obtain ⟨bd, od, rfl, hdr⟩ := hdm.at hdl
              obtain ⟨rz, hrz, hIz⟩ := hdr
              rw [Nat.mul_one] at hrz
              have HZ : x.dems.getD d [] = x.dems[d] := getD_at hdl _
              go_upto_region 9 with (fail)
              have hT7 := HK7.out.tks
              rw [hvt] at hT7
              obtain ⟨bt, ot, rr, rfl, hat⟩ := hT7.at hdn
              have hcr := hat.under.2.2.2.2.2.2.1
              have hIr := hat.1
              have hrg := hs.regs d hdn
              rw [tk_at s hdn] at hrg
              have hbox7 := HK7.out.box
              unfold kcs at hbox7
              rw [hvt] at hbox7
              simp only [KS.tell] at hbox7
              rw [ht1] at hbox7
              have hc7 : ∀ w', Ext W7 w' → ∀ j, w'.cell? ⟨b.gk, j, none⟩ = #[.int .i64 s.reload, .slice (some ⟨bt, ot, none⟩) s.tasks.length c, .int .i64 k.t, .int .i64 k1.ran, .pointer (some ⟨b.gp, 0, none⟩), .pointer (some ⟨b.gc, 0, none⟩), .pointer (some ⟨b.gt, 0, none⟩), .slice (some ⟨b.go, 0, none⟩) s.tasks.length s.tasks.length, ev2][j]? := fun w' hx => (hbox7.ext hx).cell
              have hJob := fun w' (hx : Ext W7 w') => new_job s.tasks[d].regs x.dems[d] rr rz w' (hIr.ext hx) (hIz.ext hx) ⟨hrg.1, hrg.2.1⟩ hrg.2.2
              have HJob := Lib.hid hJob
              clear hJob hbox7 hT7 hat hIr hrg
              refine wp_region_mixZ (T := [15, 16, 18]) (z := 18) (S := Ext W7) (W := W7) (Ext.mono W7) (by kernel_rfl) (by kernel_rfl) (by kernel_rfl) (Ext.refl W7).drew (Ext.refl W7) (fun _ _ h => h) (fun K hK => ?_)
              (repeat (first | (refine hX_skip ?_ ?_; (· rfl)) | (apply hX_and; (· rfl); (· rfl); (· rfl); (· rfl); (· rfl); simp only [Act.put, List.setIfInBounds_toArray, List.set_cons_zero, List.set_cons_succ]) | (apply hX_or; (· rfl); (· rfl); (· rfl); (· rfl); (· rfl); simp only [Act.put, List.setIfInBounds_toArray, List.set_cons_zero, List.set_cons_succ]) | (apply hX_off; (· rfl); (· rfl); (· rfl); simp only [Act.put, List.setIfInBounds_toArray, List.set_cons_zero, List.set_cons_succ]) | (apply hX_val; (· rfl); (· intro w hS; go_simp; with_reducible rfl); (· rfl); simp only [Act.put, List.setIfInBounds_toArray, List.set_cons_zero, List.set_cons_succ]) | (apply hX_call; (· rfl); (· rfl); (· intro w hS; go_simp; exact ⟨rfl, rfl⟩); (· intro w hS; fail); simp only [Act.put, List.setIfInBounds_toArray, List.set_cons_zero, List.set_cons_succ]) | (apply hX_if; (· rfl); (· rfl); (· rfl); (· intro hif w hS; go_simp; with_reducible rfl); simp only [Act.put, List.setIfInBounds_toArray, List.set_cons_zero, List.set_cons_succ]) | (apply hX_ifcall; (· rfl); (· rfl); (· rfl); (· intro hif w hS; go_simp; exact ⟨rfl, rfl⟩); (· intro hif w hS; fail); simp only [Act.put, List.setIfInBounds_toArray, List.set_cons_zero, List.set_cons_succ]))); refine hX_nil ?_
              refine hK _ ?_
              clear hK K
              refine wpZ_want (i := 15) (by kernel_rfl) rfl (by simp [Region.wanted, yielded]) ?_
              intro w8 hx8 K hK
              go_simp
              refine (HJob.out w8 hx8).mono ?_
              rintro e w9 ⟨gj, rfl, hgj, hJ9, hX9⟩
              replace hJ9 := hJ9.lower hx8.size
              have hE9 := hx8.trans hX9
              refine hK _ _ hE9 ?_
              clear hK K
              refine wpZ_want (i := 16) (by kernel_rfl) rfl (by simp [Region.wanted, yielded]) ?_
              intro w10 hx10 K hK
              go_simp
              refine hK _ _ (hE9.trans hx10) ?_
              clear hK K
              have hE10 := hE9.trans hx10
              have hJ10 := hJ9.ext hx10
              have hgj2 := hx8.size
              clear hE9 hJ9 hx10 hX9 hx8
              refine wpZ_last (by kernel_rfl) rfl (by simp [Region.wanted, yielded]) ?_
              intro w11 hx11 K hK
              have hE11 := hE10.trans hx11
              have hJ11 := hJ10.ext hx11
              have hK11 := HK7.out.ext hE11
              have hrow := hK11.row
              have hf := fun j => hrow.free j
              have hrl : d < os1.length := by rw [HK7.out.rl]; exact hdn
              have hr0 := hrow.at encOw_len (i := d) (j := 0) hrl (by decide)
              have hr1 := hrow.at encOw_len (i := d) (j := 1) hrl (by decide)
              have hr2 := hrow.at encOw_len (i := d) (j := 2) hrl (by decide)
              simp only [encOw, List.getElem?_cons_zero, List.getElem?_cons_succ, Nat.add_zero] at hr0 hr1 hr2
              have hput := row_put hrow hrl ⟨some gj, 0, 0⟩
              have hput2 : RowBk encOw (((w11.setCell ⟨b.go, d * 3, none⟩ (.pointer (some ⟨gj, 0, none⟩))).setCell ⟨b.go, d * 3 + 1, none⟩ (.int .u64 0)).setCell ⟨b.go, d * 3 + 2, none⟩ (.int .i64 0)) b.go 133 (os1.set d ⟨some gj, 0, 0⟩) := hput
              have hchg := (((Chg.refl (fun q => q = b.go) w11).set (g := b.go) (i := d * 3) (.inl rfl) (.pointer (some ⟨gj, 0, none⟩))).set (g := b.go) (i := d * 3 + 1) (.inl rfl) (.int .u64 0)).set (g := b.go) (i := d * 3 + 2) (.inl rfl) (.int .i64 0)
              have HPut2 := Lib.hid hput2
              have HChg := Lib.hid hchg
              have HJ11 := Lib.hid hJ11
              clear hput hput2 hchg hrow hK11 hE10 hJ10 hJ11
              go_simp
              refine hK _ _ ?_
              clear hK K
              have hk7 : (stAt (k1.tab.set d ⟨true, false, false, k.t⟩) d).start = false := by rw [HX4.out, if_pos rfl]
              have hK12 := HK7.out.newJob (m := d) (g := gj) (x := newJ s.tasks[d].regs x.dems[d]) hdn hLB1.inv.lj hk7 hE11 (by omega) HJ11.out HChg.out HPut2.out
              have hEq : ({ (({ (({ k1 with tab := k1.tab.set d ⟨true, false, false, k.t⟩ } : KS).tell 1 d 0) with pol := k1.pol.set d k.t }) : KS) with jobs := k1.jobs.set d (newJ s.tasks[d].regs x.dems[d]) } : KS) = admitK s x k1 d := by
                unfold admitK
                rw [ht1, tk_at s hdn, HZ]
                unfold KS.tell
                dsimp only
              have hS12 : Stp b B s W7 ev2 os1 _ _ ev2 (os1.set d ⟨some gj, 0, 0⟩) := ⟨hK12, ((Chg.of_ext hE11).trans HChg.out).to (fun q _ hq => .inr (.inr (.inr (.inl hq)))), fun q hq => by
                rcases hq with h | h | h | h | h | h | ⟨i, h⟩
                · exact .inl (.inl h)
                · exact .inl (.inr (.inl h))
                · exact .inl (.inr (.inr (.inl h)))
                · exact .inl (.inr (.inr (.inr (.inl h))))
                · exact .inl (.inr (.inr (.inr (.inr (.inl h)))))
                · exact .inl (.inr (.inr (.inr (.inr (.inr (.inl h))))))
                · rw [owAt_set hrl] at h
                  by_cases e : d = i
                  · rw [if_pos e] at h
                    have e2 := Option.some.inj h
                    exact .inr (by omega)
                  · rw [if_neg e] at h
                    exact .inl (.inr (.inr (.inr (.inr (.inr (.inr ⟨i, h⟩))))))⟩
              have hS13 := HS7.out.trans hS12
              have hS14 := hS13.state (k2 := admitK s x k1 d) hEq
              have HS14 := Lib.hid hS14
              have hhp : HasP s (admitK s x k1 d) (os1.set d ⟨some gj, 0, 0⟩) := fun i hi hp => by
                rw [owAt_set hrl]
                by_cases e : d = i
                · rw [if_pos e]; exact ⟨⟨gj, rfl⟩, fun _ => rfl⟩
                · rw [if_neg e]
                  have hp2 : (stAt (k1.tab.set d ⟨true, false, false, k1.t⟩) i).pend = true := hp
                  rw [stAt_set (by omega), if_neg e] at hp2
                  have h2 := HHP.out i hi hp2
                  refine ⟨h2.1, fun hs2 => h2.2 ?_⟩
                  have hs3 : (stAt (k1.tab.set d ⟨true, false, false, k1.t⟩) i).start = false := hs2
                  rw [stAt_set (by omega), if_neg e] at hs3
                  exact hs3
              have HHP2 := Lib.hid hhp
              clear hS13 hS14 hS12 hK12 hEq HJ11 HChg HPut2 hhp
              generalize World.setCell _ _ _ = W12 at HS14 ⊢
              refine wpZ_done (by kernel_rfl) (fun W13 hX13 => ?_) _
              go_wp2_with (fail)
              obtain ⟨e1, e2, e3⟩ := HEND.out ev2 _ W13 (by rw [HE.out]; exact HS14.out.ext hX13) (by rw [HE.out]; exact HHP2.out)
              exact ⟨⟨m + 1, ev2, _, hlt, rfl, e3, by rw [HE.out]; exact HHP2.out, e1, e2⟩, by simp [intOf]; omega⟩
            · have hd1 : decide ((d : Int) < (x.dems.length : Int)) = false := decide_eq_false (by omega)
              go_upto_region 9 with (fail)
              have hz : x.dems.getD d [] = [] := by simp [List.getD, List.getElem?_eq_none (show x.dems.length ≤ d by omega)]
              have HZ := hz
              clear hz
              have hT7 := HK7.out.tks
              rw [hvt] at hT7
              obtain ⟨bt, ot, rr, rfl, hat⟩ := hT7.at hdn
              have hcr := hat.under.2.2.2.2.2.2.1
              have hIr := hat.1
              have hrg := hs.regs d hdn
              rw [tk_at s hdn] at hrg
              have hbox7 := HK7.out.box
              unfold kcs at hbox7
              rw [hvt] at hbox7
              simp only [KS.tell] at hbox7
              rw [ht1] at hbox7
              have hc7 : ∀ w', Ext W7 w' → ∀ j, w'.cell? ⟨b.gk, j, none⟩ = #[.int .i64 s.reload, .slice (some ⟨bt, ot, none⟩) s.tasks.length c, .int .i64 k.t, .int .i64 k1.ran, .pointer (some ⟨b.gp, 0, none⟩), .pointer (some ⟨b.gc, 0, none⟩), .pointer (some ⟨b.gt, 0, none⟩), .slice (some ⟨b.go, 0, none⟩) s.tasks.length s.tasks.length, ev2][j]? := fun w' hx => (hbox7.ext hx).cell
              have hJob := fun w' (hx : Ext W7 w') => new_job s.tasks[d].regs [] rr (.slice none 0 0) w' (hIr.ext hx) (⟨none, 0, rfl, by simp, by unfold maxLen; omega, fun h => absurd rfl h⟩) ⟨hrg.1, hrg.2.1⟩ hrg.2.2
              have HJob := Lib.hid hJob
              clear hJob hbox7 hT7 hat hIr hrg
              refine wp_region_mixZ (T := [15, 16, 18]) (z := 18) (S := Ext W7) (W := W7) (Ext.mono W7) (by kernel_rfl) (by kernel_rfl) (by kernel_rfl) (Ext.refl W7).drew (Ext.refl W7) (fun _ _ h => h) (fun K hK => ?_)
              (repeat (first | (refine hX_skip ?_ ?_; (· rfl)) | (apply hX_and; (· rfl); (· rfl); (· rfl); (· rfl); (· rfl); simp only [Act.put, List.setIfInBounds_toArray, List.set_cons_zero, List.set_cons_succ]) | (apply hX_or; (· rfl); (· rfl); (· rfl); (· rfl); (· rfl); simp only [Act.put, List.setIfInBounds_toArray, List.set_cons_zero, List.set_cons_succ]) | (apply hX_off; (· rfl); (· rfl); (· rfl); simp only [Act.put, List.setIfInBounds_toArray, List.set_cons_zero, List.set_cons_succ]) | (apply hX_val; (· rfl); (· intro w hS; go_simp; with_reducible rfl); (· rfl); simp only [Act.put, List.setIfInBounds_toArray, List.set_cons_zero, List.set_cons_succ]) | (apply hX_call; (· rfl); (· rfl); (· intro w hS; go_simp; exact ⟨rfl, rfl⟩); (· intro w hS; fail); simp only [Act.put, List.setIfInBounds_toArray, List.set_cons_zero, List.set_cons_succ]) | (apply hX_if; (· rfl); (· rfl); (· rfl); (· intro hif w hS; go_simp; with_reducible rfl); simp only [Act.put, List.setIfInBounds_toArray, List.set_cons_zero, List.set_cons_succ]) | (apply hX_ifcall; (· rfl); (· rfl); (· rfl); (· intro hif w hS; go_simp; exact ⟨rfl, rfl⟩); (· intro hif w hS; fail); simp only [Act.put, List.setIfInBounds_toArray, List.set_cons_zero, List.set_cons_succ]))); refine hX_nil ?_
              refine hK _ ?_
              clear hK K
              refine wpZ_want (i := 15) (by kernel_rfl) rfl (by simp [Region.wanted, yielded]) ?_
              intro w8 hx8 K hK
              go_simp
              refine (HJob.out w8 hx8).mono ?_
              rintro e w9 ⟨gj, rfl, hgj, hJ9, hX9⟩
              replace hJ9 := hJ9.lower hx8.size
              have hE9 := hx8.trans hX9
              refine hK _ _ hE9 ?_
              clear hK K
              refine wpZ_want (i := 16) (by kernel_rfl) rfl (by simp [Region.wanted, yielded]) ?_
              intro w10 hx10 K hK
              go_simp
              refine hK _ _ (hE9.trans hx10) ?_
              clear hK K
              have hE10 := hE9.trans hx10
              have hJ10 := hJ9.ext hx10
              have hgj2 := hx8.size
              clear hE9 hJ9 hx10 hX9 hx8
              refine wpZ_last (by kernel_rfl) rfl (by simp [Region.wanted, yielded]) ?_
              intro w11 hx11 K hK
              have hE11 := hE10.trans hx11
              have hJ11 := hJ10.ext hx11
              have hK11 := HK7.out.ext hE11
              have hrow := hK11.row
              have hf := fun j => hrow.free j
              have hrl : d < os1.length := by rw [HK7.out.rl]; exact hdn
              have hr0 := hrow.at encOw_len (i := d) (j := 0) hrl (by decide)
              have hr1 := hrow.at encOw_len (i := d) (j := 1) hrl (by decide)
              have hr2 := hrow.at encOw_len (i := d) (j := 2) hrl (by decide)
              simp only [encOw, List.getElem?_cons_zero, List.getElem?_cons_succ, Nat.add_zero] at hr0 hr1 hr2
              have hput := row_put hrow hrl ⟨some gj, 0, 0⟩
              have hput2 : RowBk encOw (((w11.setCell ⟨b.go, d * 3, none⟩ (.pointer (some ⟨gj, 0, none⟩))).setCell ⟨b.go, d * 3 + 1, none⟩ (.int .u64 0)).setCell ⟨b.go, d * 3 + 2, none⟩ (.int .i64 0)) b.go 133 (os1.set d ⟨some gj, 0, 0⟩) := hput
              have hchg := (((Chg.refl (fun q => q = b.go) w11).set (g := b.go) (i := d * 3) (.inl rfl) (.pointer (some ⟨gj, 0, none⟩))).set (g := b.go) (i := d * 3 + 1) (.inl rfl) (.int .u64 0)).set (g := b.go) (i := d * 3 + 2) (.inl rfl) (.int .i64 0)
              have HPut2 := Lib.hid hput2
              have HChg := Lib.hid hchg
              have HJ11 := Lib.hid hJ11
              clear hput hput2 hchg hrow hK11 hE10 hJ10 hJ11
              go_simp
              refine hK _ _ ?_
              clear hK K
              have hk7 : (stAt (k1.tab.set d ⟨true, false, false, k.t⟩) d).start = false := by rw [HX4.out, if_pos rfl]
              have hK12 := HK7.out.newJob (m := d) (g := gj) (x := newJ s.tasks[d].regs []) hdn hLB1.inv.lj hk7 hE11 (by omega) HJ11.out HChg.out HPut2.out
              have hEq : ({ (({ (({ k1 with tab := k1.tab.set d ⟨true, false, false, k.t⟩ } : KS).tell 1 d 0) with pol := k1.pol.set d k.t }) : KS) with jobs := k1.jobs.set d (newJ s.tasks[d].regs []) } : KS) = admitK s x k1 d := by
                unfold admitK
                rw [ht1, tk_at s hdn, HZ]
                unfold KS.tell
                dsimp only
              have hS12 : Stp b B s W7 ev2 os1 _ _ ev2 (os1.set d ⟨some gj, 0, 0⟩) := ⟨hK12, ((Chg.of_ext hE11).trans HChg.out).to (fun q _ hq => .inr (.inr (.inr (.inl hq)))), fun q hq => by
                rcases hq with h | h | h | h | h | h | ⟨i, h⟩
                · exact .inl (.inl h)
                · exact .inl (.inr (.inl h))
                · exact .inl (.inr (.inr (.inl h)))
                · exact .inl (.inr (.inr (.inr (.inl h))))
                · exact .inl (.inr (.inr (.inr (.inr (.inl h)))))
                · exact .inl (.inr (.inr (.inr (.inr (.inr (.inl h))))))
                · rw [owAt_set hrl] at h
                  by_cases e : d = i
                  · rw [if_pos e] at h
                    have e2 := Option.some.inj h
                    exact .inr (by omega)
                  · rw [if_neg e] at h
                    exact .inl (.inr (.inr (.inr (.inr (.inr (.inr ⟨i, h⟩))))))⟩
              have hS13 := HS7.out.trans hS12
              have hS14 := hS13.state (k2 := admitK s x k1 d) hEq
              have HS14 := Lib.hid hS14
              have hhp : HasP s (admitK s x k1 d) (os1.set d ⟨some gj, 0, 0⟩) := fun i hi hp => by
                rw [owAt_set hrl]
                by_cases e : d = i
                · rw [if_pos e]; exact ⟨⟨gj, rfl⟩, fun _ => rfl⟩
                · rw [if_neg e]
                  have hp2 : (stAt (k1.tab.set d ⟨true, false, false, k1.t⟩) i).pend = true := hp
                  rw [stAt_set (by omega), if_neg e] at hp2
                  have h2 := HHP.out i hi hp2
                  refine ⟨h2.1, fun hs2 => h2.2 ?_⟩
                  have hs3 : (stAt (k1.tab.set d ⟨true, false, false, k1.t⟩) i).start = false := hs2
                  rw [stAt_set (by omega), if_neg e] at hs3
                  exact hs3
              have HHP2 := Lib.hid hhp
              clear hS13 hS14 hS12 hK12 hEq HJ11 HChg HPut2 hhp
              generalize World.setCell _ _ _ = W12 at HS14 ⊢
              refine wpZ_done (by kernel_rfl) (fun W13 hX13 => ?_) _
              go_wp2_with (fail)
              obtain ⟨e1, e2, e3⟩ := HEND.out ev2 _ W13 (by rw [HE.out]; exact HS14.out.ext hX13) (by rw [HE.out]; exact HHP2.out)
              exact ⟨⟨m + 1, ev2, _, hlt, rfl, e3, by rw [HE.out]; exact HHP2.out, e1, e2⟩, by simp [intOf]; omega⟩
      · have hE := HST.out
        unfold arrQ1 at hE
        rw [if_neg (by omega)] at hE
        have HE := Lib.hid hE
        have hdd : decide ((s.tasks.length : Int) ≤ (d : Int)) = true := decide_eq_true (by omega)
        clear hE
        go_wp2_with (fail)
        obtain ⟨e1, e2, e3⟩ := HEND.out ev1 os1 wr (by rw [HE.out]; exact Stp.refl HK.out) (by rw [HE.out]; exact HHP.out)
        exact ⟨⟨m + 1, ev1, os1, hlt, rfl, e3, by rw [HE.out]; exact HHP.out, e1, e2⟩, by simp [intOf]; omega⟩
    · have hme : m = l.length := by omega
      subst hme
      rw [List.take_length] at hS hHP1
      go_wp2_with (fail)
      refine bodyPost_end (v := .tuple #[]) (results_none Tryz.results37 _ _ _) rfl ⟨rfl, ev1, os1, by rw [HLE.out]; exact hS, by rw [HLE.out]; exact hHP1⟩
end Go.Proofs.YtniejidekflmiaaGreatDoor
