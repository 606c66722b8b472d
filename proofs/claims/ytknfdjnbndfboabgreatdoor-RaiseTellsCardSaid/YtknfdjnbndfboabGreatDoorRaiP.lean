/- raise.Put. -/
import Derived.Test.YtknfdjnbndfboabGreatDoorProg
import Derived.Test.YtknfdjnbndfboabGreatDoorBase
import Derived.Test.YtknfdjnbndfboabGreatDoorHeldX
import Derived.Test.YtknfdjnbndfboabGreatDoorApp
import Derived.Test.YtknfdjnbndfboabGreatDoorTsk1
import Derived.Test.YtknfdjnbndfboabGreatDoorTsk3
import Derived.Test.YtknfdjnbndfboabGreatDoorTsk4
import Derived.Test.YtknfdjnbndfboabGreatDoorTskZ
import Derived.Test.YtknfdjnbndfboabGreatDoorTskP
import Derived.Test.YtknfdjnbndfboabGreatDoorTskN
import Derived.Test.YtknfdjnbndfboabGreatDoorTskA
import Derived.Test.YtknfdjnbndfboabGreatDoorTskO
import Derived.Test.YtknfdjnbndfboabGreatDoorSetO
import Derived.Test.YtknfdjnbndfboabGreatDoorRespS
import Derived.Test.YtknfdjnbndfboabGreatDoorResp
import Derived.Test.YtknfdjnbndfboabGreatDoorTolA
import Derived.Test.YtknfdjnbndfboabGreatDoorTolP
import Derived.Test.YtknfdjnbndfboabGreatDoorRaiO
import Derived.Test.YtknfdjnbndfboabGreatDoorSprO
import Derived.Test.YtknfdjnbndfboabGreatDoorSprP
import Derived.Deep.Cut
import Derived.Lib.Hide
namespace Go.Proofs.YtknfdjnbndfboabGreatDoor
open Go.RowKit
attribute [local go_sem] setCell_twice ByteArray.toList_eq str_list Ext.alloc Ext.drew
set_option linter.unusedSimpArgs false
set_option maxRecDepth 100000
set_option maxHeartbeats 6400000
attribute [local irreducible] popN

def threshT (t : Tsk) (p : Int) : Tsk := modedT 2 0 p t
/-- what raise.Put answers -/
def raiseS (s : TSet) : TSet := match raiseQ s with
  | some qs => zipT threshT s qs
  | none => ⟨0, []⟩
theorem raisePut_any (s : TSet) (v : Value) (w : World) (hv : Tasks w v s.tasks) (hf : s.fit) (hG : GOK w) :
    Calls Tryz.prog 9 #[setV s v] w fun e w' => ∃ v' ps, e = .returned (.tuple #[setV (raiseS s) v', .bool (raiseQ s).isSome]) ∧ PutOwn w' w.heap.size v' ps ∧ ps.map (·.1) = (raiseS s).tasks ∧ Below w.heap.size w w' := by
  have l1 := hv.len
  have hg := hf.good
  have hv0 := hv
  obtain ⟨A, c, rfl, hle, hcm, _⟩ := hv0
  unfold maxLen at hcm
  go_enter Tryz.func9, Tryz.ntmps9
  unfold setV
  go_upto_region 1 with (fail)
  have hL : Below w.heap.size w ((w.alloc (.cells #[.int .i64 s.reload, .slice A s.tasks.length c] 24)).alloc (.cells #[.int .i64 0, .slice none 0 0] 24)) := (by repeat (first | exact Below.refl _ _ | assumption | refine Below.drew ?_ | refine Below.alloc ?_ (by first | (simp; done) | (simp; omega) | omega) _ | refine Below.setCell ?_ (by first | (simp; done) | (simp; omega) | omega) _))
  have hB : Blk ((w.alloc (.cells #[.int .i64 s.reload, .slice A s.tasks.length c] 24)).alloc (.cells #[.int .i64 0, .slice none 0 0] 24)) w.heap.size #[.int .i64 s.reload, .slice A s.tasks.length c] 24 := (Blk.new _ _ _).alloc _
  have hR : Blk ((w.alloc (.cells #[.int .i64 s.reload, .slice A s.tasks.length c] 24)).alloc (.cells #[.int .i64 0, .slice none 0 0] 24)) (w.heap.size + 1) #[.int .i64 0, .slice none 0 0] 24 := Blk.new_at _ _ _ _ (by simp)
  have hr := hv.ext ⟨hL⟩
  have hG0 := hG.below hL
  generalize (w.alloc _).alloc _ = W at hL hB hR hr hG0 ⊢
  have hc := hB.cell
  have hA := raiseOf_any s (.slice A s.tasks.length c) W hr hf hG0
  have hss : raiseS s = match raiseQ s with | some qs => zipT threshT s qs | none => ⟨0, []⟩ := rfl
  have hsq : raiseQ s = (tolS s).map fun bs => psL s bs s.tasks.length := rfl
  have hqp : ∀ qs, raiseQ s = some qs → allB s = true ∧ qs.length = s.tasks.length := fun qs h => by
    rw [hsq] at h
    cases ho : tolS s with
    | none => rw [ho] at h; cases h
    | some bs =>
      rw [ho] at h
      obtain ⟨h1, _, _⟩ := tolS_got ho
      have := Option.some.inj h
      rw [← this]
      exact ⟨h1, psL_len _ _ _⟩
  have hX0 : Ext w W := ⟨hL⟩
  generalize hge : raiseQ s = o at hA hss hqp
  have HGE := Lib.hid hge
  clear hsq hge
  cases o with
  | none =>
    have HSS := Lib.hid hss
    clear hss hqp
    go_wp2_with (fail)
    refine hA.mono ?_
    rintro e w1 ⟨v1, rfl, hO, hb1⟩
    have hX1 := hX0.call hb1
    have hR1 := hR.ext ⟨hb1⟩
    have hcR := hR1.cell
    have hfR := hR1.free
    clear hO hc
    go_wp2_with (fail)
    have hR2 := hR1.set 0 (.int .i64 0)
    have hR3 := hR2.set 1 (.slice none 0 0)
    have hc3 := hR3.cell
    refine bodyPost_ret (v := .tuple #[setV ⟨0, []⟩ (.slice none 0 0), .bool false]) (by simp [setV, results, Tryz.results9, go_sem, hc3]) rfl ⟨_, [], by rw [HSS.out, HGE.out]; rfl, PutOwn.nil, by rw [HSS.out]; rfl, ((hX1.set (by omega) _).set (by omega) _).below⟩
  | some qs =>
    obtain ⟨hal, hql⟩ := hqp qs rfl
    have hs := fine_of hal hf
    have hlen := hs.len
    have hss2 : raiseS s = zipT threshT s qs := hss
    have HSS := Lib.hid hss2
    clear hss hss2 hqp hal
    have hA : Calls Tryz.prog 7 #[setV s (.slice A s.tasks.length c)] W fun e w' => ∃ v', e = .returned (.tuple #[v', .bool true]) ∧ RowP w' W.heap.size v' qs ∧ Below W.heap.size W w' := hA
    go_wp2_with (fail)
    refine hA.mono ?_
    rintro e w1 ⟨v1, rfl, hO, hb1⟩
    obtain ⟨A1, c1, rfl, _, _⟩ := OwnL.form hO
    have hI1 : Ints w1 (.slice A1 s.tasks.length c1) qs := by rw [← hql]; exact hO.ints
    have hX1 := hX0.call hb1
    have hB1 := hB.ext ⟨hb1⟩
    have hR1 := hR.ext ⟨hb1⟩
    have hlt1 := hR1.lt
    have HQL := Lib.hid hql
    rw [hql]
    clear hc hO hql hb1 hB hR
    have hcB := hB1.cell
    go_upto_region 5 with (fail)
    have hX2 := (Ext.refl w1).alloc (.cells #[.int .i64 s.reload, .slice none 0 0] 24)
    have hOb : Blk (w1.alloc (.cells #[.int .i64 s.reload, .slice none 0 0] 24)) w1.heap.size #[.int .i64 s.reload, .slice none 0 0] 24 := Blk.new _ _ _
    obtain ⟨go, hgo⟩ : ∃ go, go = w1.heap.size := ⟨_, rfl⟩
    rw [← hgo] at hOb ⊢
    have HGO := Lib.hid hgo
    clear hcB hgo
    generalize w1.alloc _ = W2 at hX2 hOb ⊢
    have hcB2 := (hB1.ext hX2).cell
    go_wp2_with (fail)
    clear hcB2
    go_loopw [23] (fun i wr => ∃ (k : Nat) (vo : Value) (ps : List (Tsk × Value)), k ≤ s.tasks.length ∧ i = .int .i64 k ∧ Hid (ps.map (·.1) = (zipT threshT s qs).tasks.take k) ∧ Hid (ps.length = k) ∧ PutOwn wr w1.heap.size vo ps ∧ Blk wr go #[.int .i64 s.reload, vo] 24 ∧ Ext w1 wr) (fun i _ => s.tasks.length - (intOf i).toNat)
    case atStart => exact ⟨0, _, [], Nat.zero_le _, rfl, Lib.hid rfl, Lib.hid rfl, PutOwn.nil, hOb, hX2⟩
    case round =>
      obtain ⟨k, vo, ps, hk, rfl, HP, hpl, hP, hO, hX⟩ := hrel
      have hXw := hX1.trans hX
      by_cases hlt : k < s.tasks.length
      · obtain ⟨b, o, r, rfl, hx⟩ := hv.at hlt
        have hkq : k < qs.length := by rw [HQL.out]; exact hlt
        obtain ⟨bq, oq, rfl, hy⟩ := hI1.at hkq
        have hft := hs.at k hlt
        have hrg := regs_each hft.regs
        have hfit := hf.2.2 _ (List.getElem_mem hlt)
        have hst : (zipT threshT s qs).tasks.take (k + 1) = (zipT threshT s qs).tasks.take k ++ [threshT s.tasks[k] qs[k]] := by
          rw [List.take_succ_eq_append_getElem (by rw [zipT_len threshT s qs HQL.out]; exact hlt), zipT_get threshT s qs k _ hlt hkq]
        generalize s.tasks[k] = x at hx hft hrg hfit hst
        generalize qs[k] = q at hy hst
        have HS := Lib.hid hst
        clear hst hft
        obtain ⟨Ax, cx, rfl⟩ := hx.row
        obtain ⟨x0, x1, x2, x3, x4, x5, x6, x7, x8⟩ := hx.under
        have hyr := fun w' (h : Ext wr w') => hy w' (hX.trans h)
        have y0 := x0 wr hXw
        have y1 := x1 wr hXw
        have y2 := x2 wr hXw
        have y3 := x3 wr hXw
        have y4 := x4 wr hXw
        have y5 := x5 wr hXw
        have y6 := x6 wr hXw
        have y7 := x7 wr hXw
        have y8 := x8 wr hXw
        clear x0 x1 x2 x3 x4 x5 x6 x7 x8 hy
        go_upto_region 8 with (fail)
        have hE5 := (Ext.refl wr).alloc (.cells #[.string x.name, .int .i64 x.T, .int .i64 x.D, .int .i64 x.mode, .int .i64 x.q, .int .i64 x.theta, (.slice Ax x.regs.length cx), .int .u64 x.ecb, .int .u64 x.ucb] 41)
        have hB5 : Blk (wr.alloc (.cells #[.string x.name, .int .i64 x.T, .int .i64 x.D, .int .i64 x.mode, .int .i64 x.q, .int .i64 x.theta, (.slice Ax x.regs.length cx), .int .u64 x.ecb, .int .u64 x.ucb] 41)) wr.heap.size #[.string x.name, .int .i64 x.T, .int .i64 x.D, .int .i64 x.mode, .int .i64 x.q, .int .i64 x.theta, (.slice Ax x.regs.length cx), .int .u64 x.ecb, .int .u64 x.ucb] 41 := Blk.new _ _ _
        clear y0 y1 y2 y3 y4 y5 y6 y7 y8
        generalize wr.alloc _ = W5 at hE5 hB5 ⊢
        obtain ⟨g5, e5⟩ : ∃ g, g = wr.heap.size := ⟨_, rfl⟩
        rw [← e5] at hB5 ⊢
        have hg5 : wr.heap.size ≤ g5 := by omega
        have HE := Lib.hid e5; clear e5
        refine' wp_region_mix (T := [5, 7, 9]) (S := Ext wr) (W := W5) (Ext.mono wr) (by kernel_rfl) (by kernel_rfl) (Ext.refl W5).drew hE5 (fun _ _ h => h) (fun K hK => ?_)
        (repeat (first | (refine hX_skip ?_ ?_; (· rfl)) | (apply hX_and; (· rfl); (· rfl); (· rfl); (· rfl); (· rfl); simp only [Act.put, List.setIfInBounds_toArray, List.set_cons_zero, List.set_cons_succ]) | (apply hX_or; (· rfl); (· rfl); (· rfl); (· rfl); (· rfl); simp only [Act.put, List.setIfInBounds_toArray, List.set_cons_zero, List.set_cons_succ]) | (apply hX_off; (· rfl); (· rfl); (· rfl); simp only [Act.put, List.setIfInBounds_toArray, List.set_cons_zero, List.set_cons_succ]) | (apply hX_val; (· rfl); (· intro w hS; go_simp; with_reducible rfl); (· rfl); simp only [Act.put, List.setIfInBounds_toArray, List.set_cons_zero, List.set_cons_succ]) | (apply hX_call; (· rfl); (· rfl); (· intro w hS; go_simp; exact ⟨rfl, rfl⟩); (· intro w hS; fail); simp only [Act.put, List.setIfInBounds_toArray, List.set_cons_zero, List.set_cons_succ]) | (apply hX_if; (· rfl); (· rfl); (· rfl); (· intro hif w hS; go_simp; with_reducible rfl); simp only [Act.put, List.setIfInBounds_toArray, List.set_cons_zero, List.set_cons_succ]) | (apply hX_ifcall; (· rfl); (· rfl); (· rfl); (· intro hif w hS; go_simp; exact ⟨rfl, rfl⟩); (· intro hif w hS; fail); simp only [Act.put, List.setIfInBounds_toArray, List.set_cons_zero, List.set_cons_succ]))); refine hX_nil ?_
        refine hK _ ?_
        clear hK K
        refine wpX_want (i := 5) (by kernel_rfl) rfl (by simp [Region.wanted, yielded]) ?_
        intro w' hx6 K hK
        have hB6 := hB5.ext hx6
        have hE6 := hE5.trans hx6
        have hc6 := hB6.cell
        have hf6 := hB6.free
        go_simp
        refine hK _ _ (hE6.set hg5 _) ?_
        have hB7 := hB6.set 3 (.int .i64 2)
        have hE7 := hE6.set (i := 3) hg5 (.int .i64 2)
        clear hK K hc6 hf6 hx6 hB5 hE5 hB6 hE6
        generalize w'.setCell _ _ = W7 at hB7 hE7 ⊢
        simp only [List.setIfInBounds_toArray, List.set_cons_zero, List.set_cons_succ] at hB7
        refine wpX_want (i := 7) (by kernel_rfl) rfl (by simp [Region.wanted, yielded]) ?_
        intro w' hx6 K hK
        have hB8 := hB7.ext hx6
        have hE8 := hE7.trans hx6
        have hc6 := hB8.cell
        have hf6 := hB8.free
        go_simp
        refine hK _ _ (hE8.set hg5 _) ?_
        have hB9 := hB8.set 4 (.int .i64 0)
        have hE9 := hE8.set (i := 4) hg5 (.int .i64 0)
        clear hK K hc6 hf6 hx6 hB7 hE7 hB8 hE8
        generalize w'.setCell _ _ = W9 at hB9 hE9 ⊢
        simp only [List.setIfInBounds_toArray, List.set_cons_zero, List.set_cons_succ] at hB9
        refine wpX_want (i := 9) (by kernel_rfl) rfl (by simp [Region.wanted, yielded]) ?_
        intro w' hx6 K hK
        have hB10 := hB9.ext hx6
        have hE10 := hE9.trans hx6
        have hc6 := hB10.cell
        have hf6 := hB10.free
        go_simp
        refine hK _ _ (hE10.set hg5 _) ?_
        have hB11 := hB10.set 5 (.int .i64 q)
        have hE11 := hE10.set (i := 5) hg5 (.int .i64 q)
        clear hK K hc6 hf6 hx6 hB9 hE9 hB10 hE10
        generalize w'.setCell _ _ = W11 at hB11 hE11 ⊢
        simp only [List.setIfInBounds_toArray, List.set_cons_zero, List.set_cons_succ] at hB11
        refine wpX_done (by kernel_rfl) (fun W12 hx12 => ?_) _
        have hB12 := hB11.ext hx12
        have hE12 := hE11.trans hx12
        clear hx12 hB11 hE11
        have hc12 := hB12.cell
        have hRx := hx.1.ext (hXw.trans hE12)
        have hC := clone_any x.regs (.slice Ax x.regs.length cx) W12 hRx (fun e => by rw [e] at hrg; simp at hrg) (by omega)
        go_wp2_with (fail)
        refine hC.mono ?_
        rintro e w13 ⟨v13, rfl, hrow, hb13⟩
        obtain ⟨A13, c13, rfl, _, _⟩ := OwnL.form hrow
        have hB13 := hB12.ext ⟨hb13⟩
        have hE13 := hE12.call hb13
        have hc13 := hB13.cell
        have hf13 := hB13.free
        clear hc12 hC
        go_upto_region 10 with (fail)
        have hE14 := hE13.set (i := 6) hg5 (.slice A13 x.regs.length c13)
        have hB14 := hB13.set 6 (.slice A13 x.regs.length c13)
        simp only [List.setIfInBounds_toArray, List.set_cons_zero, List.set_cons_succ] at hB14
        have hl12 := hB12.lt
        have hrow14 : RowI (w13.setCell ⟨g5, 6, none⟩ (.slice A13 x.regs.length c13)) W12.heap.size (.slice A13 x.regs.length c13) x.regs := OwnL.set hrow (a := ⟨g5, 6, none⟩) (fun e => by have := (OwnL.lt hrow g5 e).1; omega) _
        clear hc13 hf13 hB13 hE13 hrow
        generalize w13.setCell _ _ = W14 at hE14 hB14 hrow14 ⊢
        have hP14 := hP.ext hE14
        have hO14 := hO.ext hE14
        have hX14 := hX.trans hE14
        have hle12 : wr.heap.size ≤ W12.heap.size := hE12.size
        have hd : ∀ p ∈ ps, ∀ j, p.2.ownBlock = some j → (Value.slice A13 x.regs.length c13).ownBlock ≠ some j := fun p hp j hj e => by
          have h1 := (OwnL.lt (hP.2.1 p hp) j hj).2
          have h2 := (OwnL.lt hrow14 j e).1
          omega
        have HD := Lib.hid hd
        have HL := Lib.hid (show ps.length = k from hpl.out)
        have hw1 : w1.heap.size ≤ W12.heap.size := Nat.le_trans hX.size hle12
        have hrow15 : RowI W14 w1.heap.size (.slice A13 x.regs.length c13) x.regs := OwnL.lower hrow14 hw1
        clear hd hP hO hE14 hrow14 hE12 hB12
        obtain ⟨Av, cv, rfl, _, _⟩ := hP14.1.form
        have hc14 := hB14.cell
        have hc15 := hO14.cell
        have hf15 := hO14.free
        go_wp2_with (at_builtin; (refine wpList_push rfl _ _ 22 rfl w1.heap.size 41 Tryz.underlying22 infoTask rfl (by decide) (by decide) encT ps _ rfl (hP14.1.alloc _) (threshT x q, .slice A13 x.regs.length c13) W14.heap.size #[.string (threshT x q).name, .int .i64 (threshT x q).T, .int .i64 (threshT x q).D, .int .i64 (threshT x q).mode, .int .i64 (threshT x q).q, .int .i64 (threshT x q).theta, (.slice A13 x.regs.length c13), .int .u64 (threshT x q).ecb, .int .u64 (threshT x q).ucb] 41 rfl (Blk.new _ _ _) rfl rfl (encT_one _ rfl) ?_ ?_ ?_; (· have := HL.out; omega); (· have := hX14.size; simp; omega); (intro v2 w16 hown2 hg2 hloc2 _; obtain ⟨A2, c2, rfl⟩ := own_slice hown2; have hO16 := (hO14.alloc (.cells #[.string (threshT x q).name, .int .i64 (threshT x q).T, .int .i64 (threshT x q).D, .int .i64 (threshT x q).mode, .int .i64 (threshT x q).q, .int .i64 (threshT x q).theta, (.slice A13 x.regs.length c13), .int .u64 (threshT x q).ecb, .int .u64 (threshT x q).ucb] 41)).grown hg2 (own_ne_blk hP14.1 hO14 (by decide)); have hc16 := hO16.cell; have hf16 := hO16.free; clear hc15 hf15 hc14)))
        have hA7 := (Ext.refl W14).alloc (.cells #[.string (threshT x q).name, .int .i64 (threshT x q).T, .int .i64 (threshT x q).D, .int .i64 (threshT x q).mode, .int .i64 (threshT x q).q, .int .i64 (threshT x q).theta, (.slice A13 x.regs.length c13), .int .u64 (threshT x q).ecb, .int .u64 (threshT x q).ucb] 41)
        have hP16 := (hP14.ext hA7).push (x := threshT x q) (OwnL.alloc hrow15 _) hg2 hown2 HD.out
        have hP17 := hP16.set hO16 1 (.slice A2 (ps.length + 1) c2)
        have hX16 : Ext w1 w16 := (hX14.alloc (.cells #[.string (threshT x q).name, .int .i64 (threshT x q).T, .int .i64 (threshT x q).D, .int .i64 (threshT x q).mode, .int .i64 (threshT x q).q, .int .i64 (threshT x q).theta, (.slice A13 x.regs.length c13), .int .u64 (threshT x q).ecb, .int .u64 (threshT x q).ucb] 41)).grown hg2 (fun j hj => (OwnL.lt hP14.1 j hj).1)
        have hO17 := hO16.set 1 (.slice A2 (ps.length + 1) c2)
        simp only [List.setIfInBounds_toArray, List.set_cons_zero, List.set_cons_succ] at hO17
        have hgo := HGO.out
        rw [List.length_append, List.length_singleton] at hP17
        exact ⟨⟨k + 1, _, _, hlt, rfl, Lib.hid (by rw [List.map_append, HP.out, HS.out]; rfl), Lib.hid (by rw [List.length_append, hpl.out]; rfl), hP17, hO17, hX16.set (by omega) _⟩, by simp [intOf]; omega⟩
      · have hke : k = s.tasks.length := Nat.le_antisymm hk (Nat.not_lt.1 hlt)
        have hzl := zipT_len threshT s qs HQL.out
        have hps : ps.map (·.1) = (raiseS s).tasks := by
          rw [HSS.out, HP.out, hke, ← hzl, List.take_length]
        have HPS := Lib.hid hps
        clear hps
        have hRr := hR1.ext hX
        have hc2 := hO.cell
        have hc3 := hRr.cell
        have hf3 := hRr.free
        obtain ⟨Av, cv, rfl, _, _⟩ := hP.1.form
        go_wp2_with (fail)
        have hR2 := hRr.set 0 (.int .i64 s.reload)
        have hR3 := hR2.set 1 (.slice Av ps.length cv)
        have hcR := hR3.cell
        have hgo := HGO.out
        refine bodyPost_ret (v := .tuple #[setV s (.slice Av ps.length cv), .bool true]) ?_ rfl ⟨_, ps, by rw [HSS.out, HGE.out]; rfl, ?_, HPS.out, ?_⟩
        · simp [results, Tryz.results9, go_sem, hcR, setV]
        · have hP2 := (hP.set hRr 0 (.int .i64 s.reload)).set hR2 1 (.slice Av ps.length cv)
          exact ⟨OwnL.lower hP2.1 hX1.size, fun p hp => OwnL.lower (hP2.2.1 p hp) hX1.size, hP2.2.2⟩
        · exact ((hXw.set (by omega) _).set (by omega) _).below
end Go.Proofs.YtknfdjnbndfboabGreatDoor
