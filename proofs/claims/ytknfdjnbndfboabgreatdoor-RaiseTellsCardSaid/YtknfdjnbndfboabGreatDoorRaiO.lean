/- raise.Of. -/
import Derived.Test.YtknfdjnbndfboabGreatDoorProg
import Derived.Test.YtknfdjnbndfboabGreatDoorBase
import Derived.Test.YtknfdjnbndfboabGreatDoorHeldX
import Derived.Test.YtknfdjnbndfboabGreatDoorApp
import Derived.Test.YtknfdjnbndfboabGreatDoorTsk1
import Derived.Test.YtknfdjnbndfboabGreatDoorTsk3
import Derived.Test.YtknfdjnbndfboabGreatDoorTsk4
import Derived.Test.YtknfdjnbndfboabGreatDoorTskZ
import Derived.Test.YtknfdjnbndfboabGreatDoorTskP
import Derived.Test.YtknfdjnbndfboabGreatDoorTskA
import Derived.Test.YtknfdjnbndfboabGreatDoorTskO
import Derived.Test.YtknfdjnbndfboabGreatDoorSetO
import Derived.Test.YtknfdjnbndfboabGreatDoorRespS
import Derived.Test.YtknfdjnbndfboabGreatDoorResp
import Derived.Test.YtknfdjnbndfboabGreatDoorTolA
import Derived.Test.YtknfdjnbndfboabGreatDoorTolP
import Derived.Test.YtknfdjnbndfboabGreatDoorAgain
import Derived.Deep.Cut
import Derived.Lib.Hide
namespace Go.Proofs.YtknfdjnbndfboabGreatDoor
open Go.RowKit
attribute [local go_sem] setCell_twice ByteArray.toList_eq str_list Ext.alloc Ext.drew
set_option linter.unusedSimpArgs false
set_option maxRecDepth 100000
set_option maxHeartbeats 6400000
attribute [local irreducible] popN Calls

theorem tolS_got {s : TSet} {bs : List Int} (h : tolS s = some bs) : allB s = true ∧ tolL s s.tasks.length = some bs ∧ bs.length = s.tasks.length := by
  unfold tolS at h
  split at h
  · rename_i ha
    exact ⟨ha, h, tolL_len s _ _ h⟩
  · cases h
theorem infoPI : (Tryz.prog.info? 3).map (fun i => (i.zero, i.size, i.bytes)) = some (some (.int .i64 0), 1, 8) := by kernel_rfl
/-- a row of ints of the call's own -/
def RowP (w : World) (base : Nat) (r : Value) (xs : List Int) : Prop := OwnL encI w base 3 1 r xs
theorem RowP.ints {w : World} {base : Nat} {r : Value} {xs : List Int} (h : RowP w base r xs) : Ints w r xs := by
  have := OwnL.read h (R := fun w b o x => w.cell? ⟨b, o, none⟩ = some (.int .i64 x)) (F := Any) (fun _ => rfl) (fun _ _ _ => trivial) (fun b o p hp hx => by have := hx 0 _ rfl; exact this)
  obtain ⟨A, c, e, h1, h2, h3⟩ := this
  refine ⟨A, c, e, h1, h2, fun hne => ?_⟩
  obtain ⟨b, o, e, _, hx⟩ := h3 hne
  exact ⟨b, o, e, fun i hi => by have := hx i hi; rwa [Nat.mul_one] at this⟩
/-- how far up one may go from p: the least place from which on all bear so much -/
def thrAt (bs : List Int) (wz : Int) : Nat → Nat
  | 0 => 0
  | p + 1 => if wz ≤ bs.getD p 0 then thrAt bs wz p else p + 1
theorem thrAt_spec (bs : List Int) (wz : Int) : ∀ p, thrAt bs wz p ≤ p ∧ (∀ j, thrAt bs wz p ≤ j → j < p → wz ≤ bs.getD j 0) ∧ (0 < thrAt bs wz p → bs.getD (thrAt bs wz p - 1) 0 < wz)
  | 0 => ⟨Nat.le_refl _, fun j _ h => by omega, fun h => absurd h (Nat.lt_irrefl 0)⟩
  | p + 1 => by
    obtain ⟨h1, h2, h3⟩ := thrAt_spec bs wz p
    unfold thrAt
    by_cases h : wz ≤ bs.getD p 0
    · rw [if_pos h]
      refine ⟨by omega, fun j hj hjp => ?_, h3⟩
      by_cases hjp2 : j = p
      · subst hjp2; exact h
      · exact h2 j hj (by omega)
    · rw [if_neg h]
      exact ⟨Nat.le_refl _, fun j hj hjp => by omega, fun _ => by rw [Nat.add_sub_cancel]; omega⟩
def pAt (s : TSet) (bs : List Int) (low : Nat) : Int := if h : low < s.tasks.length then (thrAt bs (wholeZ s s.tasks[low]) low : Nat) else 0
def psL (s : TSet) (bs : List Int) (n : Nat) : List Int := (List.range n).map (pAt s bs)
theorem psL_succ (s : TSet) (bs : List Int) (n : Nat) : psL s bs (n + 1) = psL s bs n ++ [pAt s bs n] := by
  unfold psL
  rw [List.range_succ, List.map_append]
  rfl
theorem psL_len (s : TSet) (bs : List Int) (n : Nat) : (psL s bs n).length = n := by unfold psL; simp
def raiseQ (s : TSet) : Option (List Int) := (tolS s).map fun bs => psL s bs s.tasks.length
theorem raiseOf_any (s : TSet) (v : Value) (w : World) (hv : Tasks w v s.tasks) (hf : s.fit) (hG : GOK w) :
    Calls Tryz.prog 7 #[setV s v] w fun e w' => ∃ v', e = .returned (.tuple #[v', .bool (raiseQ s).isSome]) ∧ RowP w' w.heap.size v' ((raiseQ s).getD []) ∧ Below w.heap.size w w' := by
  have l1 := hv.len
  have hg := hf.good
  have hv0 := hv
  obtain ⟨A, c, rfl, hle, hcm, _⟩ := hv0
  unfold maxLen at hcm
  go_enter Tryz.func7, Tryz.ntmps7
  unfold setV
  go_upto_region 1 with (fail)
  have hL : Below w.heap.size w (w.alloc (.cells #[.int .i64 s.reload, (.slice A s.tasks.length c)] 24)) := (by repeat (first | exact Below.refl _ _ | assumption | refine Below.drew ?_ | refine Below.alloc ?_ (by first | (simp; done) | (simp; omega) | omega) _ | refine Below.setCell ?_ (by first | (simp; done) | (simp; omega) | omega) _)); have hB : Blk (w.alloc (.cells #[.int .i64 s.reload, (.slice A s.tasks.length c)] 24)) w.heap.size #[.int .i64 s.reload, (.slice A s.tasks.length c)] 24 := Blk.new _ _ _
  have hr := hv.ext ⟨hL⟩
  have hG0 := hG.below hL
  generalize w.alloc _ = W at hL hB hr hG0 ⊢
  have hc := hB.under
  have hA := tolerAll_any s (.slice A s.tasks.length c) W hr hf hG0
  have hsq : raiseQ s = (tolS s).map fun bs => psL s bs s.tasks.length := rfl
  have hts := fun bs => tolS_got (s := s) (bs := bs)
  generalize tolS s = o at hA hsq hts
  have hc0 := hc W (Ext.refl W)
  cases o with
  | none =>
    have HSQ := Lib.hid hsq
    clear hsq hts
    go_wp2_with (fail)
    refine hA.mono ?_
    rintro e w1 ⟨v1, rfl, hO, hb1⟩
    clear hO
    go_wp2_with (fail)
    exact bodyPost_ret (v := .tuple #[.slice none 0 0, .bool false]) (by simp [results, Tryz.results7, go_sem, *]) rfl ⟨_, by rw [HSQ.out]; rfl, by rw [HSQ.out]; exact OwnL.nil, hL.trans (((Ext.refl W).call hb1).below.mono hL.size)⟩
  | some bs =>
    obtain ⟨hal, _, hbl⟩ := hts bs rfl
    have hs := fine_of hal hf
    have hlen := hs.len
    have hsq2 : raiseQ s = some (psL s bs s.tasks.length) := hsq
    have HSQ := Lib.hid hsq2
    clear hsq hsq2 hts hal
    have hA : Calls Tryz.prog 17 #[setV s (.slice A s.tasks.length c)] W fun e w' => ∃ v', e = .returned (.tuple #[v', .bool true]) ∧ RowI w' W.heap.size v' bs ∧ Below W.heap.size W w' := hA
    obtain ⟨b0, o0, r0, rfl, hxx⟩ := hr.at (show 0 < s.tasks.length by omega)
    clear hxx
    go_wp2_with (fail)
    refine hA.mono ?_
    rintro e w1 ⟨v1, rfl, hO, hb1⟩
    have hX1 : Ext W w1 := ⟨hb1⟩
    obtain ⟨A1, c1, rfl, hc1l, hc1m⟩ := OwnL.form hO
    have hI1 : Ints w1 (.slice A1 s.tasks.length c1) bs := by rw [← hbl]; exact hO.ints
    have hcm1 : s.tasks.length ≤ c1 := by omega
    have hHBL := Lib.hid hbl
    rw [hbl]
    clear hc0 hO hb1 hbl
    obtain ⟨bq, oq, rfl, hxx⟩ := hI1.at (k := 0) (by rw [hHBL.out]; omega)
    clear hxx
    have hc1 := hc w1 hX1
    go_wp2_with (fail)
    clear hc1
    go_loopw [6, 21] (fun l i wr => ∃ q : Nat, q ≤ s.tasks.length ∧ i = .int .i64 q ∧ RowP wr w1.heap.size l (psL s bs q) ∧ Ext w1 wr) (fun _ i _ => s.tasks.length - (intOf i).toNat)
    case atStart => exact ⟨0, Nat.zero_le _, rfl, OwnL.nil, Ext.refl w1⟩
    case round =>
      obtain ⟨q, hq, rfl, hO, hX⟩ := hrel
      have hXW := hX1.trans hX
      by_cases hlt : q < s.tasks.length
      · obtain ⟨b, o, r, e, hx⟩ := hr.at hlt
        obtain ⟨rfl, rfl⟩ : b = b0 ∧ o = o0 := by cases e; exact ⟨rfl, rfl⟩
        have hst := psL_succ s bs q
        have hpa : pAt s bs q = (thrAt bs (wholeZ s s.tasks[q]) q : Nat) := by unfold pAt; rw [dif_pos hlt]
        rw [hpa] at hst
        have hwz : wholeZ s s.tasks[q] = workL s.tasks[q].regs + ownZ s s.tasks[q] - 1 := rfl
        have hwr := whole_range hs hlt
        have how := own_range hs s.tasks[q]
        have hwk := (hs.at q hlt).work
        have htm := (hs.at q hlt).time
        have HO := Lib.hid fun W' (h : Ext wr W') => own_any s (.slice (some ⟨b, o, none⟩) s.tasks.length c) q W' (hr.ext (hXW.trans h)) hs.plain hlt
        rw [show s.reload * (popN 64 s.tasks[q].ucb.toNat : Nat) = ownZ s s.tasks[q] from rfl] at HO
        have HW := Lib.hid fun W' (h : Ext wr W') => work_any s.tasks[q] r W' (hx.1.ext (hXW.trans h))
        have hrow := hx.row
        have hxr := hx.ext hXW
        generalize s.tasks[q] = t at hx hrow HW HO hst hwz hwr how hwk htm hxr
        generalize ownZ s t = oz at HO how hwz
        generalize wholeZ s t = wz at hst hwz hwr
        unfold tskV at HW
        obtain ⟨A2, c2, rfl⟩ := hrow
        generalize workL t.regs = wk at HW hwk hwz
        have HST := Lib.hid hst
        clear hst hpa hx
        obtain ⟨x0, x1, x2, x3, x4, x5, x6, x7, x8⟩ := hxr.under
        have y0 := x0 wr (Ext.refl wr)
        have y1 := x1 wr (Ext.refl wr)
        have y2 := x2 wr (Ext.refl wr)
        have y3 := x3 wr (Ext.refl wr)
        have y4 := x4 wr (Ext.refl wr)
        have y5 := x5 wr (Ext.refl wr)
        have y6 := x6 wr (Ext.refl wr)
        have y7 := x7 wr (Ext.refl wr)
        have y8 := x8 wr (Ext.refl wr)
        clear x0 x1 x2 x3 x4 x5 x6 x7 x8
        have hcr := hc wr hXW
        go_upto_region 8 with (fail)
        have hE5 := (Ext.refl wr).alloc (.cells #[.string t.name, .int .i64 t.T, .int .i64 t.D, .int .i64 t.mode, .int .i64 t.q, .int .i64 t.theta, (.slice A2 t.regs.length c2), .int .u64 t.ecb, .int .u64 t.ucb] 41)
        have hB5 : Blk (wr.alloc (.cells #[.string t.name, .int .i64 t.T, .int .i64 t.D, .int .i64 t.mode, .int .i64 t.q, .int .i64 t.theta, (.slice A2 t.regs.length c2), .int .u64 t.ecb, .int .u64 t.ucb] 41)) wr.heap.size #[.string t.name, .int .i64 t.T, .int .i64 t.D, .int .i64 t.mode, .int .i64 t.q, .int .i64 t.theta, (.slice A2 t.regs.length c2), .int .u64 t.ecb, .int .u64 t.ucb] 41 := Blk.new _ _ _
        clear hcr y0 y1 y2 y3 y4 y5 y6 y7 y8
        generalize wr.alloc _ = W5 at hE5 hB5 ⊢
        generalize wr.heap.size = g5 at hB5 ⊢
        have hcT := hB5.under
        have hcs := fun W' (h : Ext W5 W') => hc W' ((hXW.trans hE5).trans h)
        have HO5 := Lib.hid fun W' (h : Ext W5 W') => HO.out W' (hE5.trans h)
        have HW5 := Lib.hid fun W' (h : Ext W5 W') => HW.out W' (hE5.trans h)
        have w1a : IntKind.i64.wrap (wk + oz) = wk + oz := by rw [IntKind.wrap_i64]; omega
        have w2a : IntKind.i64.wrap (wk + oz - 1) = wz := by rw [hwz, IntKind.wrap_i64]; omega
        clear hwz
        refine wp_region_all (S := Ext W5) (by kernel_rfl) (by kernel_rfl) (Ext.refl W5).drew (fun K hK => ?_); (repeat (first | (apply hO_and; (· rfl); (· rfl); (· rfl); (· rfl); simp only [Act.put, List.setIfInBounds_toArray, List.set_cons_zero, List.set_cons_succ]) | (apply hO_or; (· rfl); (· rfl); (· rfl); (· rfl); simp only [Act.put, List.setIfInBounds_toArray, List.set_cons_zero, List.set_cons_succ]) | (apply hO_off; (· rfl); (· rfl); simp only [Act.put, List.setIfInBounds_toArray, List.set_cons_zero, List.set_cons_succ]) | (apply hO_val; (· intro w hS; go_simp; with_reducible rfl); (· rfl); simp only [Act.put, List.setIfInBounds_toArray, List.set_cons_zero, List.set_cons_succ]) | (apply hO_call; (· rfl); (· intro w hS; go_simp; exact ⟨rfl, rfl⟩); (· intro w hS; first | exact callX hS (HW5.out _ hS) | exact callX hS (HO5.out _ hS)); simp only [Act.put, List.setIfInBounds_toArray, List.set_cons_zero, List.set_cons_succ]) | (apply hO_if; (· rfl); (· rfl); (· intro hif w hS; go_simp; with_reducible rfl); simp only [Act.put, List.setIfInBounds_toArray, List.set_cons_zero, List.set_cons_succ]) | (apply hO_ifcall; (· rfl); (· rfl); (· intro hif w hS; go_simp; exact ⟨rfl, rfl⟩); (· intro hif w hS; first | exact callX hS (HW5.out _ hS) | exact callX hS (HO5.out _ hS)); simp only [Act.put, List.setIfInBounds_toArray, List.set_cons_zero, List.set_cons_succ]))); refine hO_nil ?_; refine hK _ ?_; clear hK K
        intro w6 hX6
        have hO6 : RowP w6 w1.heap.size _ _ := OwnL.below hO (hE5.trans hX6).below
        have hX7 : Ext w1 w6 := hX.trans (hE5.trans hX6)
        have hll := psL_len s bs q
        generalize psL s bs q = ls at hO6 hll HST
        have HLL := Lib.hid hll
        have hI6 := hI1.ext hX7
        clear hll hcT hcs hB5 hE5 hxr
        go_wp2_with (fail)
        go_loopw [10] (fun p wp => ∃ k : Nat, p = .int .i64 k ∧ k ≤ q ∧ Hid (thrAt bs wz k = thrAt bs wz q) ∧ Ext w6 wp) (fun p _ => (intOf p).toNat)
        case atStart => exact ⟨q, rfl, Nat.le_refl _, Lib.hid rfl, Ext.refl w6⟩
        case round =>
          obtain ⟨k, rfl, hkq, hth, hXp⟩ := hrel
          cases k with
          | zero =>
            have hz : ((thrAt bs wz q : Nat) : Int) = (0 : Int) := by rw [← hth.out]; rfl
            have HQE := Lib.hid hz
            clear hz
            rw [show ((0 : Nat) : Int) = 0 from rfl]
            obtain ⟨wp, hwp⟩ : ∃ wp, wp = wr := ⟨_, rfl⟩
            rw [← hwp] at hXp ⊢
            clear hwp
            have hXe := hX7.trans hXp; have hOe : RowP wp w1.heap.size _ _ := OwnL.below hO6 hXp.below; obtain ⟨Av, cv, rfl, _, _⟩ := OwnL.form hOe; go_wp2_with (at_builtin; (refine wpList_push rfl _ _ 26 rfl w1.heap.size 3 Tryz.underlying26 infoPI rfl (by decide) (by decide) encI ls _ rfl (hOe.alloc _) (0 : Int) wp.heap.size #[.int .i64 (0 : Int)] 3 rfl (Blk.new _ _ _) rfl rfl (by simp [encI, Value.oneCell']) ?_ ?_ ?_; (· have := HLL.out; omega); (· have := hXe.size; simp; omega); (intro v2 w8 hown hg hloc _))); have hX8 : Ext w1 w8 := (hXe.alloc (.cells #[.int .i64 (0 : Int)] 3)).grown hg (fun j hj => (OwnL.lt hOe j hj).1); exact ⟨⟨q + 1, hlt, rfl, by rw [HST.out, HQE.out]; exact hown, hX8⟩, by simp [intOf]; omega⟩
          | succ p =>
            have hpb : p < bs.length := by rw [hHBL.out]; omega
            obtain ⟨b5, o5, e5, hy⟩ := hI6.at hpb
            obtain ⟨rfl, rfl⟩ : b5 = bq ∧ o5 = oq := by cases e5; exact ⟨rfl, rfl⟩
            have hy2 := fun w' (h : Ext wr w') => hy w' (hXp.trans h)
            have hstep : thrAt bs wz (p + 1) = if wz ≤ bs[p] then thrAt bs wz p else p + 1 := by
              show (if wz ≤ bs.getD p 0 then thrAt bs wz p else p + 1) = _
              rw [getD_at hpb]
            generalize bs[p] = z at hy2 hstep
            have hpw : IntKind.i64.wrap (p : Int) = (p : Int) := by rw [IntKind.wrap_i64]; omega
            have hps : p < s.tasks.length := by omega
            clear hy hpb
            go_upto_region 10 with (fail)
            refine wp_region_all' (S := Ext wr) (Ext.refl wr) (fun K hK => ?_); (repeat (first | (apply hO_and; (· rfl); (· rfl); (· rfl); (· rfl); simp only [Act.put, List.setIfInBounds_toArray, List.set_cons_zero, List.set_cons_succ]) | (apply hO_or; (· rfl); (· rfl); (· rfl); (· rfl); simp only [Act.put, List.setIfInBounds_toArray, List.set_cons_zero, List.set_cons_succ]) | (apply hO_off; (· rfl); (· rfl); simp only [Act.put, List.setIfInBounds_toArray, List.set_cons_zero, List.set_cons_succ]) | (apply hO_val; (· intro w hS; go_simp; with_reducible rfl); (· rfl); simp only [Act.put, List.setIfInBounds_toArray, List.set_cons_zero, List.set_cons_succ]) | (apply hO_call; (· rfl); (· intro w hS; go_simp; exact ⟨rfl, rfl⟩); (· intro w hS; fail); simp only [Act.put, List.setIfInBounds_toArray, List.set_cons_zero, List.set_cons_succ]) | (apply hO_if; (· rfl); (· rfl); (· intro hif w hS; go_simp; with_reducible rfl); simp only [Act.put, List.setIfInBounds_toArray, List.set_cons_zero, List.set_cons_succ]) | (apply hO_ifcall; (· rfl); (· rfl); (· intro hif w hS; go_simp; exact ⟨rfl, rfl⟩); (· intro hif w hS; fail); simp only [Act.put, List.setIfInBounds_toArray, List.set_cons_zero, List.set_cons_succ]))); refine hO_nil ?_; refine forget_range 34 10 (Nat.le_of_ble_eq_true rfl) (fun junk => ?_); simp only [List.take_succ_cons, List.take_zero, List.drop_succ_cons, List.drop_zero, List.cons_append, List.nil_append, fillF, Nat.reduceAdd]; refine hK _ ?_; clear hK K
            intro wp hXp2
            have hXp := hXp.trans hXp2
            clear hXp2 hy2
            by_cases hzz : wz ≤ z
            · rw [if_pos hzz] at hstep
              have hth2 : Hid (thrAt bs wz p = thrAt bs wz q) := Lib.hid (by rw [← hstep]; exact hth.out)
              clear hstep hth
              rw [decide_eq_true hzz]
              go_wp2_with (fail)
              exact ⟨⟨p, by simp, by omega, hth2, hXp⟩, by first | (simp [intOf]; done) | (simp [intOf]; omega)⟩
            · rw [if_neg hzz] at hstep
              have hz : ((thrAt bs wz q : Nat) : Int) = ((p : Int) + 1) := by rw [← hth.out, hstep]; rfl
              have HQE := Lib.hid hz
              clear hz hstep hth
              rw [decide_eq_false hzz]
              have hXe := hX7.trans hXp; have hOe : RowP wp w1.heap.size _ _ := OwnL.below hO6 hXp.below; obtain ⟨Av, cv, rfl, _, _⟩ := OwnL.form hOe; go_wp2_with (at_builtin; (refine wpList_push rfl _ _ 26 rfl w1.heap.size 3 Tryz.underlying26 infoPI rfl (by decide) (by decide) encI ls _ rfl (hOe.alloc _) ((p : Int) + 1) wp.heap.size #[.int .i64 ((p : Int) + 1)] 3 rfl (Blk.new _ _ _) rfl rfl (by simp [encI, Value.oneCell']) ?_ ?_ ?_; (· have := HLL.out; omega); (· have := hXe.size; simp; omega); (intro v2 w8 hown hg hloc _))); have hX8 : Ext w1 w8 := (hXe.alloc (.cells #[.int .i64 ((p : Int) + 1)] 3)).grown hg (fun j hj => (OwnL.lt hOe j hj).1); exact ⟨⟨q + 1, hlt, rfl, by rw [HST.out, HQE.out]; exact hown, hX8⟩, by simp [intOf]; omega⟩
      · have hqe : q = s.tasks.length := Nat.le_antisymm hq (Nat.not_lt.1 hlt)
        subst hqe
        obtain ⟨Av, cv, rfl, _, _⟩ := OwnL.form hO
        go_wp2_with (fail)
        exact bodyPost_ret (v := .tuple #[.slice Av (psL s bs s.tasks.length).length cv, .bool true]) (by simp [results, Tryz.results7, go_sem, *]) rfl ⟨_, by rw [HSQ.out]; rfl, by rw [HSQ.out]; exact OwnL.lower hO (Nat.le_trans hL.size hX1.size), hL.trans (hXW.below.mono hL.size)⟩
end Go.Proofs.YtknfdjnbndfboabGreatDoor
