/- ref17.Of, ref17.Put. -/
import Derived.Test.YtknfdjnbndfboabGreatDoorProg
import Derived.Test.YtknfdjnbndfboabGreatDoorOwnB
import Derived.Test.YtknfdjnbndfboabGreatDoorBase
import Derived.Test.YtknfdjnbndfboabGreatDoorHeldX
import Derived.Test.YtknfdjnbndfboabGreatDoorApp
import Derived.Test.YtknfdjnbndfboabGreatDoorTsk1
import Derived.Test.YtknfdjnbndfboabGreatDoorTsk3
import Derived.Test.YtknfdjnbndfboabGreatDoorTsk4
import Derived.Test.YtknfdjnbndfboabGreatDoorTskZ
import Derived.Test.YtknfdjnbndfboabGreatDoorTskP
import Derived.Test.YtknfdjnbndfboabGreatDoorTskN
import Derived.Test.YtknfdjnbndfboabGreatDoorTskA
import Derived.Test.YtknfdjnbndfboabGreatDoorTskO
import Derived.Test.YtknfdjnbndfboabGreatDoorSetO
import Derived.Test.YtknfdjnbndfboabGreatDoorRespS
import Derived.Test.YtknfdjnbndfboabGreatDoorResp
import Derived.Test.YtknfdjnbndfboabGreatDoorTolA
import Derived.Test.YtknfdjnbndfboabGreatDoorTolP
import Derived.Test.YtknfdjnbndfboabGreatDoorTol14
import Derived.Test.YtknfdjnbndfboabGreatDoorRef8
import Derived.Test.YtknfdjnbndfboabGreatDoorRef9
import Derived.Test.YtknfdjnbndfboabGreatDoorSprO
import Derived.Test.YtknfdjnbndfboabGreatDoorSprP
import Derived.Test.YtknfdjnbndfboabGreatDoorRaiO
import Derived.Test.YtknfdjnbndfboabGreatDoorRaiP
import Derived.Deep.Cut
import Derived.Lib.Hide
namespace Go.Proofs.YtknfdjnbndfboabGreatDoor
open Go.RowKit
attribute [local go_sem] setCell_twice ByteArray.toList_eq str_list Ext.alloc Ext.drew
set_option linter.unusedSimpArgs false
set_option maxRecDepth 100000
set_option maxHeartbeats 6400000
attribute [local irreducible] popN Calls

/-- what ref17.Of answers of a set that may be -/
def raiseR (s : TSet) : Option (List Int) := (tolL s s.tasks.length).map fun bs => psL s bs s.tasks.length
theorem ref17Of_any (s : TSet) (v : Value) (w : World) (hv : Tasks w v s.tasks) (hs : Fine s) :
    Calls Tryz.prog 8 #[setV s v] w fun e w' => ∃ v', e = .returned (.tuple #[v', .bool (raiseR s).isSome]) ∧ RowP w' w.heap.size v' ((raiseR s).getD []) ∧ Below w.heap.size w w' := by
  have l1 := hv.len
  have hlen := hs.len
  have hv0 := hv
  obtain ⟨A, c, rfl, hle, hcm, _⟩ := hv0
  unfold maxLen at hcm
  go_enter Tryz.func8, Tryz.ntmps8
  unfold setV
  go_upto_region 1 with (fail)
  have hL : Below w.heap.size w (w.alloc (.cells #[.int .i64 s.reload, (.slice A s.tasks.length c)] 24)) := (by repeat (first | exact Below.refl _ _ | assumption | refine Below.drew ?_ | refine Below.alloc ?_ (by first | (simp; done) | (simp; omega) | omega) _ | refine Below.setCell ?_ (by first | (simp; done) | (simp; omega) | omega) _)); have hB : Blk (w.alloc (.cells #[.int .i64 s.reload, (.slice A s.tasks.length c)] 24)) w.heap.size #[.int .i64 s.reload, (.slice A s.tasks.length c)] 24 := Blk.new _ _ _
  have hr := hv.ext ⟨hL⟩
  generalize w.alloc _ = W at hL hB hr ⊢
  have hc := hB.under
  have hA := ref14All_any s (.slice A s.tasks.length c) W hr hs
  have hsq : raiseR s = (tolL s s.tasks.length).map fun bs => psL s bs s.tasks.length := rfl
  have hts : ∀ bs, tolL s s.tasks.length = some bs → bs.length = s.tasks.length := fun bs h => tolL_len s _ _ h
  generalize tolL s s.tasks.length = o at hA hsq hts
  have hc0 := hc W (Ext.refl W)
  cases o with
  | none =>
    have HSQ := Lib.hid hsq
    clear hsq hts
    go_wp2_with (fail)
    refine hA.mono ?_
    rintro e w1 ⟨v1, rfl, hO, hb1⟩
    clear hO
    go_wp2_with (fail)
    exact bodyPost_ret (v := .tuple #[.slice none 0 0, .bool false]) (by simp [results, Tryz.results8, go_sem, *]) rfl ⟨_, by rw [HSQ.out]; rfl, by rw [HSQ.out]; exact OwnL.nil, hL.trans (((Ext.refl W).call hb1).below.mono hL.size)⟩
  | some bs =>
    have hbl := hts bs rfl
    have hsq2 : raiseR s = some (psL s bs s.tasks.length) := hsq
    have HSQ := Lib.hid hsq2
    clear hsq hsq2 hts
    have hA : Calls Tryz.prog 20 #[setV s (.slice A s.tasks.length c)] W fun e w' => ∃ v', e = .returned (.tuple #[v', .bool true]) ∧ RowI w' W.heap.size v' bs ∧ Below W.heap.size W w' := hA
    go_wp2_with (fail)
    refine hA.mono ?_
    rintro e w1 ⟨v1, rfl, hO, hb1⟩
    have hX1 : Ext W w1 := ⟨hb1⟩
    obtain ⟨A1, c1, rfl, hc1l, hc1m⟩ := OwnL.form hO
    have hI1 : Ints w1 (.slice A1 s.tasks.length c1) bs := by rw [← hbl]; exact hO.ints
    have hcm1 : s.tasks.length ≤ c1 := by omega
    obtain ⟨bq, oq, rfl, hxx⟩ := hI1.at (k := 0) (by omega)
    have hHBL := Lib.hid hbl
    rw [hbl]
    clear hc0 hO hb1 hbl hxx
    have hc1 := hc w1 hX1
    go_wp2_with (fail)
    clear hc1
    go_loopw [6, 7] (fun l i wr => ∃ q : Nat, q ≤ s.tasks.length ∧ i = .int .i64 q ∧ RowP wr w1.heap.size l (psL s bs q) ∧ Ext w1 wr) (fun _ i _ => s.tasks.length - (intOf i).toNat)
    case atStart => exact ⟨0, Nat.zero_le _, rfl, OwnL.nil, Ext.refl w1⟩
    case round =>
      obtain ⟨q, hq, rfl, hO, hX⟩ := hrel
      rename World => w6
      have hXW := hX1.trans hX
      have hcr := hc w6 hXW
      by_cases hlt : q < s.tasks.length
      · have hst := psL_succ s bs q
        have hpa : pAt s bs q = (thrAt bs (wholeZ s s.tasks[q]) q : Nat) := by unfold pAt; rw [dif_pos hlt]
        rw [hpa] at hst
        have HW := Lib.hid fun W' (h : Ext w6 W') => whole9_any s (.slice A s.tasks.length c) q W' (hr.ext (hXW.trans h)) hs hlt
        generalize wholeZ s s.tasks[q] = wz at hst HW
        have HST := Lib.hid hst
        clear hst hpa
        have hO6 := hO
        have hX7 := hX
        have hll := psL_len s bs q
        generalize psL s bs q = ls at hO6 hll HST
        have HLL := Lib.hid hll
        have hI6 := hI1.ext hX7
        clear hll hO hX
        go_wp2_with (fail)
        clear hcr
        go_loopw [8] (fun p wp => ∃ k : Nat, p = .int .i64 k ∧ k ≤ q ∧ Hid (thrAt bs wz k = thrAt bs wz q) ∧ Ext w6 wp) (fun p _ => (intOf p).toNat)
        case atStart => exact ⟨q, rfl, Nat.le_refl _, Lib.hid rfl, Ext.refl w6⟩
        case round =>
          obtain ⟨k, rfl, hkq, hth, hXp⟩ := hrel
          cases k with
          | zero =>
            have hz : ((thrAt bs wz q : Nat) : Int) = (0 : Int) := by rw [← hth.out]; rfl
            have HQE := Lib.hid hz
            clear hz
            rw [show ((0 : Nat) : Int) = 0 from rfl]
            go_upto_region 9 with (fail)
            refine wp_region_all (S := Ext wr) (by kernel_rfl) (by kernel_rfl) (Ext.refl wr).drew (fun K hK => ?_); (repeat (first | (apply hO_and (p := false) (q := true); (· rfl); (· rfl); (· rfl); (· rfl); simp only [Act.put, List.setIfInBounds_toArray, List.set_cons_zero, List.set_cons_succ]) | (apply hO_or (p := true) (q := true); (· rfl); (· rfl); (· rfl); (· rfl); simp only [Act.put, List.setIfInBounds_toArray, List.set_cons_zero, List.set_cons_succ]) | (apply hO_and; (· rfl); (· rfl); (· rfl); (· rfl); simp only [Act.put, List.setIfInBounds_toArray, List.set_cons_zero, List.set_cons_succ]) | (apply hO_or; (· rfl); (· rfl); (· rfl); (· rfl); simp only [Act.put, List.setIfInBounds_toArray, List.set_cons_zero, List.set_cons_succ]) | (apply hO_off; (· rfl); (· rfl); simp only [Act.put, List.setIfInBounds_toArray, List.set_cons_zero, List.set_cons_succ]) | (apply hO_val; (· intro w hS; go_simp; with_reducible rfl); (· rfl); simp only [Act.put, List.setIfInBounds_toArray, List.set_cons_zero, List.set_cons_succ]) | (apply hO_call; (· rfl); (· intro w hS; go_simp; exact ⟨rfl, rfl⟩); (· intro w hS; fail); simp only [Act.put, List.setIfInBounds_toArray, List.set_cons_zero, List.set_cons_succ]) | (apply hO_if; (· rfl); (· rfl); (· intro hif w hS; go_simp; with_reducible rfl); simp only [Act.put, List.setIfInBounds_toArray, List.set_cons_zero, List.set_cons_succ]) | (apply hO_ifcall; (· rfl); (· rfl); (· intro hif w hS; go_simp; exact ⟨rfl, rfl⟩); (· intro hif w hS; fail); simp only [Act.put, List.setIfInBounds_toArray, List.set_cons_zero, List.set_cons_succ]))); refine hO_nil ?_; refine forget_range 24 12 (Nat.le_of_ble_eq_true rfl) (fun junk => ?_); simp only [List.take_succ_cons, List.take_zero, List.drop_succ_cons, List.drop_zero, List.cons_append, List.nil_append, fillF, Nat.reduceAdd]; refine hK _ ?_; clear hK K
            intro wp hXp2
            have hXp := hXp.trans hXp2
            clear hXp2
            have hXe := hX7.trans hXp; have hOe : RowP wp w1.heap.size _ _ := OwnL.below hO6 hXp.below; obtain ⟨Av, cv, rfl, _, _⟩ := OwnL.form hOe; go_wp2_with (at_builtin; (refine wpList_push rfl _ _ 26 rfl w1.heap.size 3 Tryz.underlying26 infoPI rfl (by decide) (by decide) encI ls _ rfl (hOe.alloc _) (0 : Int) wp.heap.size #[.int .i64 (0 : Int)] 3 rfl (Blk.new _ _ _) rfl rfl (by simp [encI, Value.oneCell']) ?_ ?_ ?_; (· have := HLL.out; omega); (· have := hXe.size; simp; omega); (intro v2 w8 hown hg hloc _))); have hX8 : Ext w1 w8 := (hXe.alloc (.cells #[.int .i64 (0 : Int)] 3)).grown hg (fun j hj => (OwnL.lt hOe j hj).1); exact ⟨⟨q + 1, hlt, rfl, by rw [HST.out, HQE.out]; exact hown, hX8⟩, by simp [intOf]; omega⟩
          | succ p =>
            have hpb : p < bs.length := by rw [hHBL.out]; omega
            obtain ⟨b5, o5, e5, hy⟩ := hI6.at hpb
            obtain ⟨rfl, rfl⟩ : b5 = bq ∧ o5 = oq := by cases e5; exact ⟨rfl, rfl⟩
            have hy2 := fun w' (h : Ext wr w') => hy w' (hXp.trans h)
            have hcs := fun w' (h : Ext wr w') => hc w' (hXW.trans (hXp.trans h))
            have HW2 := Lib.hid fun w' (h : Ext wr w') => HW.out w' (hXp.trans h)
            have hstep : thrAt bs wz (p + 1) = if wz ≤ bs[p] then thrAt bs wz p else p + 1 := by
              show (if wz ≤ bs.getD p 0 then thrAt bs wz p else p + 1) = _
              rw [getD_at hpb]
            generalize bs[p] = z at hy2 hstep
            have hpw : IntKind.i64.wrap (p : Int) = (p : Int) := by rw [IntKind.wrap_i64]; omega
            have hps : p < s.tasks.length := by omega
            clear hy hpb
            go_upto_region 9 with (fail)
            refine wp_region_all (S := Ext wr) (by kernel_rfl) (by kernel_rfl) (Ext.refl wr).drew (fun K hK => ?_); (repeat (first | (apply hO_and; (· rfl); (· rfl); (· rfl); (· rfl); simp only [Act.put, List.setIfInBounds_toArray, List.set_cons_zero, List.set_cons_succ]) | (apply hO_or; (· rfl); (· rfl); (· rfl); (· rfl); simp only [Act.put, List.setIfInBounds_toArray, List.set_cons_zero, List.set_cons_succ]) | (apply hO_off; (· rfl); (· rfl); simp only [Act.put, List.setIfInBounds_toArray, List.set_cons_zero, List.set_cons_succ]) | (apply hO_val; (· intro w hS; go_simp; with_reducible rfl); (· rfl); simp only [Act.put, List.setIfInBounds_toArray, List.set_cons_zero, List.set_cons_succ]) | (apply hO_call; (· rfl); (· intro w hS; go_simp; exact ⟨rfl, rfl⟩); (· intro w hS; exact callX hS (HW2.out _ hS)); simp only [Act.put, List.setIfInBounds_toArray, List.set_cons_zero, List.set_cons_succ]) | (apply hO_if; (· rfl); (· rfl); (· intro hif w hS; go_simp; with_reducible rfl); simp only [Act.put, List.setIfInBounds_toArray, List.set_cons_zero, List.set_cons_succ]) | (apply hO_ifcall; (· rfl); (· rfl); (· intro hif w hS; go_simp; exact ⟨rfl, rfl⟩); (· intro hif w hS; exact callX hS (HW2.out _ hS)); simp only [Act.put, List.setIfInBounds_toArray, List.set_cons_zero, List.set_cons_succ]))); refine hO_nil ?_; refine forget_range 24 12 (Nat.le_of_ble_eq_true rfl) (fun junk => ?_); simp only [List.take_succ_cons, List.take_zero, List.drop_succ_cons, List.drop_zero, List.cons_append, List.nil_append, fillF, Nat.reduceAdd]; refine hK _ ?_; clear hK K
            intro wp hXp2
            have hXp := hXp.trans hXp2
            clear hXp2 hy2 hcs
            by_cases hzz : wz ≤ z
            · rw [if_pos hzz] at hstep
              have hth2 : Hid (thrAt bs wz p = thrAt bs wz q) := Lib.hid (by rw [← hstep]; exact hth.out)
              clear hstep hth
              rw [decide_eq_true hzz]
              go_wp2_with (fail)
              exact ⟨⟨p, by simp, by omega, hth2, hXp⟩, by first | (simp [intOf]; done) | (simp [intOf]; omega)⟩
            · rw [if_neg hzz] at hstep
              have hz : ((thrAt bs wz q : Nat) : Int) = ((p : Int) + 1) := by rw [← hth.out, hstep]; rfl
              have HQE := Lib.hid hz
              clear hz hstep hth
              rw [decide_eq_false hzz]
              have hXe := hX7.trans hXp; have hOe : RowP wp w1.heap.size _ _ := OwnL.below hO6 hXp.below; obtain ⟨Av, cv, rfl, _, _⟩ := OwnL.form hOe; go_wp2_with (at_builtin; (refine wpList_push rfl _ _ 26 rfl w1.heap.size 3 Tryz.underlying26 infoPI rfl (by decide) (by decide) encI ls _ rfl (hOe.alloc _) ((p : Int) + 1) wp.heap.size #[.int .i64 ((p : Int) + 1)] 3 rfl (Blk.new _ _ _) rfl rfl (by simp [encI, Value.oneCell']) ?_ ?_ ?_; (· have := HLL.out; omega); (· have := hXe.size; simp; omega); (intro v2 w8 hown hg hloc _))); have hX8 : Ext w1 w8 := (hXe.alloc (.cells #[.int .i64 ((p : Int) + 1)] 3)).grown hg (fun j hj => (OwnL.lt hOe j hj).1); exact ⟨⟨q + 1, hlt, rfl, by rw [HST.out, HQE.out]; exact hown, hX8⟩, by simp [intOf]; omega⟩
      · have hqe : q = s.tasks.length := Nat.le_antisymm hq (Nat.not_lt.1 hlt)
        subst hqe
        obtain ⟨Av, cv, rfl, _, _⟩ := OwnL.form hO
        go_wp2_with (fail)
        exact bodyPost_ret (v := .tuple #[.slice Av (psL s bs s.tasks.length).length cv, .bool true]) (by simp [results, Tryz.results8, go_sem, *]) rfl ⟨_, by rw [HSQ.out]; rfl, by rw [HSQ.out]; exact OwnL.lower hO (Nat.le_trans hL.size hX1.size), hL.trans (hXW.below.mono hL.size)⟩
/-- what ref17.Put answers of a set that may be -/
def raiseRS (s : TSet) : TSet := match raiseR s with
  | some qs => zipT threshT s qs
  | none => ⟨0, []⟩
theorem ref17Put_any (s : TSet) (v : Value) (w : World) (hv : Tasks w v s.tasks) (hs : Fine s) (hf : s.fit) :
    Calls Tryz.prog 10 #[setV s v] w fun e w' => ∃ v', e = .returned (.tuple #[setV (raiseRS s) v', .bool (raiseR s).isSome]) ∧ Tasks w' v' (raiseRS s).tasks ∧ Below w.heap.size w w' := by
  have l1 := hv.len
  have hlen := hs.len
  have hv0 := hv
  obtain ⟨A, c, rfl, hle, hcm, _⟩ := hv0
  unfold maxLen at hcm
  go_enter Tryz.func10, Tryz.ntmps10
  unfold setV
  go_upto_region 1 with (fail)
  have hL : Below w.heap.size w ((w.alloc (.cells #[.int .i64 s.reload, .slice A s.tasks.length c] 24)).alloc (.cells #[.int .i64 0, .slice none 0 0] 24)) := (by repeat (first | exact Below.refl _ _ | assumption | refine Below.drew ?_ | refine Below.alloc ?_ (by first | (simp; done) | (simp; omega) | omega) _ | refine Below.setCell ?_ (by first | (simp; done) | (simp; omega) | omega) _))
  have hB : Blk ((w.alloc (.cells #[.int .i64 s.reload, .slice A s.tasks.length c] 24)).alloc (.cells #[.int .i64 0, .slice none 0 0] 24)) w.heap.size #[.int .i64 s.reload, .slice A s.tasks.length c] 24 := (Blk.new _ _ _).alloc _
  have hR : Blk ((w.alloc (.cells #[.int .i64 s.reload, .slice A s.tasks.length c] 24)).alloc (.cells #[.int .i64 0, .slice none 0 0] 24)) (w.heap.size + 1) #[.int .i64 0, .slice none 0 0] 24 := Blk.new_at _ _ _ _ (by simp)
  have hr := hv.ext ⟨hL⟩
  generalize (w.alloc _).alloc _ = W at hL hB hR hr ⊢
  have hc := hB.cell
  have hA := ref17Of_any s (.slice A s.tasks.length c) W hr hs
  have hss : raiseRS s = match raiseR s with | some qs => zipT threshT s qs | none => ⟨0, []⟩ := rfl
  have hqp : ∀ qs, raiseR s = some qs → qs.length = s.tasks.length := fun qs h => by
    unfold raiseR at h
    cases ho : tolL s s.tasks.length with
    | none => rw [ho] at h; cases h
    | some bs =>
      rw [ho] at h
      rw [← Option.some.inj h]
      exact psL_len _ _ _
  have hX0 : Ext w W := ⟨hL⟩
  generalize hge : raiseR s = o at hA hss hqp
  have HGE := Lib.hid hge
  clear hge
  cases o with
  | none =>
    have HSS := Lib.hid hss
    clear hss hqp
    go_wp2_with (fail)
    refine hA.mono ?_
    rintro e w1 ⟨v1, rfl, hO, hb1⟩
    have hX1 := hX0.call hb1
    have hR1 := hR.ext ⟨hb1⟩
    have hcR := hR1.cell
    have hfR := hR1.free
    clear hO hc
    go_wp2_with (fail)
    have hR2 := hR1.set 0 (.int .i64 0)
    have hR3 := hR2.set 1 (.slice none 0 0)
    have hc3 := hR3.cell
    refine bodyPost_ret (v := .tuple #[setV ⟨0, []⟩ (.slice none 0 0), .bool false]) (by simp [setV, results, Tryz.results10, go_sem, hc3]) rfl ⟨_, by rw [HSS.out, HGE.out]; rfl, by rw [HSS.out]; exact (PutOwn.nil (base := 0)).tasks, ((hX1.set (by omega) _).set (by omega) _).below⟩
  | some qs =>
    have hql := hqp qs rfl
    have hss2 : raiseRS s = zipT threshT s qs := hss
    have HSS := Lib.hid hss2
    clear hss hss2 hqp
    have hA : Calls Tryz.prog 8 #[setV s (.slice A s.tasks.length c)] W fun e w' => ∃ v', e = .returned (.tuple #[v', .bool true]) ∧ RowP w' W.heap.size v' qs ∧ Below W.heap.size W w' := hA
    go_wp2_with (fail)
    refine hA.mono ?_
    rintro e w1 ⟨v1, rfl, hO, hb1⟩
    obtain ⟨A1, c1, rfl, _, _⟩ := OwnL.form hO
    have hI1 : Ints w1 (.slice A1 s.tasks.length c1) qs := by rw [← hql]; exact hO.ints
    have hE1 : Ext W w1 := ⟨hb1⟩
    have hR1 := hR.ext hE1
    have HQL := Lib.hid hql
    rw [hql]
    have hU := put_any s (.slice A s.tasks.length c) w1 (hr.ext hE1) hf
    have hc1 := (hB.ext hE1).cell
    obtain ⟨bq, oq, rfl, hz0⟩ := hI1.at (k := 0) (by omega)
    clear hc hO hql hb1 hB hR hz0
    go_wp2_with (fail)
    refine hU.mono ?_
    rintro e w2 ⟨v2, ps, rfl, hP2, hps, hb2⟩
    have hE2 : Ext w1 w2 := ⟨hb2⟩
    have hnl : ps.length = s.tasks.length := by rw [← hps, List.length_map]
    obtain ⟨g, cg, rfl, hg1, hg2⟩ := hP2.head (by intro e; rw [e] at hnl; simp at hnl; omega)
    rw [hnl] at hP2 ⊢
    clear hc1
    unfold setV
    dsimp only
    go_upto_region 5 with (fail)
    have hE3 := hE2.alloc (.cells #[.int .i64 s.reload, .slice (some ⟨g, 0, none⟩) s.tasks.length cg] 24)
    have hBx : Blk (w2.alloc (.cells #[.int .i64 s.reload, .slice (some ⟨g, 0, none⟩) s.tasks.length cg] 24)) w2.heap.size #[.int .i64 s.reload, .slice (some ⟨g, 0, none⟩) s.tasks.length cg] 24 := Blk.new _ _ _
    have hP3 := hP2.ext ((Ext.refl w2).alloc (.cells #[.int .i64 s.reload, .slice (some ⟨g, 0, none⟩) s.tasks.length cg] 24))
    have hne : w2.heap.size ≠ g := Nat.ne_of_gt hg2
    clear hP2 hb2 hE2 hg2
    generalize w2.heap.size = gx at hBx hne ⊢
    generalize w2.alloc _ = w3 at hE3 hBx hP3 ⊢
    have hBS3 : BoxS w1 gx #[.int .i64 s.reload, .slice (some ⟨g, 0, none⟩) s.tasks.length cg] 24 w3 := ⟨hE3, hBx⟩
    have hyl := zipT_len threshT s qs HQL.out
    have hyg := Lib.hid fun j (h1 : j < s.tasks.length) (h2 : j < (zipT threshT s qs).tasks.length) (h3 : j < qs.length) => zipT_get threshT s qs j h2 h1 h3
    have hps3 : ps.map (·.1) = (zipT threshT s qs).tasks.take 0 ++ s.tasks.drop 0 := by rw [hps]; rfl
    generalize hys : (zipT threshT s qs).tasks = ys at hyl hyg hps3
    have HYS := Lib.hid hys
    clear hys
    have HYL := Lib.hid hyl
    have hRe := fun w' (h : Ext w1 w') => hR1.ext h
    clear hps hnl hyl hBx hE3
    go_wp2_with (fail)
    go_loopw [7] (fun i wr => ∃ (k : Nat) (ps : List (Tsk × Value)), k ≤ s.tasks.length ∧ i = .int .i64 k ∧ PutOwn wr w1.heap.size (.slice (some ⟨g, 0, none⟩) s.tasks.length cg) ps ∧ Hid (ps.map (·.1) = ys.take k ++ s.tasks.drop k) ∧ BoxS w1 gx #[.int .i64 s.reload, .slice (some ⟨g, 0, none⟩) s.tasks.length cg] 24 wr) (fun i _ => s.tasks.length - (intOf i).toNat)
    case atStart => exact ⟨0, ps, Nat.zero_le _, rfl, hP3, Lib.hid hps3, hBS3⟩
    case round =>
      obtain ⟨k, ps, hk, rfl, hP, HP, hBS⟩ := hrel
      by_cases hlt : k < s.tasks.length
      · have hkl : ps.length = s.tasks.length := by
          have := congrArg List.length HP.out
          have h2 := HYL.out
          simp at this
          omega
        have hkp : k < ps.length := by omega
        obtain ⟨⟨t0, r0⟩, hp0⟩ : ∃ p, ps[k] = p := ⟨_, rfl⟩
        have ht0 : t0 = s.tasks[k] := by
          have h1 : (ps.map (·.1))[k]? = (ys.take k ++ s.tasks.drop k)[k]? := by rw [HP.out]
          rw [List.getElem?_eq_getElem (by rw [List.length_map]; exact hkp), List.getElem?_eq_getElem (by have := HYL.out; simp; omega)] at h1
          have h2 := Option.some.inj h1
          rw [List.getElem_map, hp0, back_at HYL.out.symm (by rw [HYL.out]; exact hlt)] at h2
          exact h2
        have hkq : k < qs.length := by rw [HQL.out]; exact hlt
        obtain ⟨b5, o5, e5, hy⟩ := hI1.at hkq
        obtain ⟨rfl, rfl⟩ : b5 = bq ∧ o5 = oq := by cases e5; exact ⟨rfl, rfl⟩
        have hstep := back_step HYL.out.symm (by rw [HYL.out]; exact hlt : k < ys.length)
        rw [hyg.out k hlt (by rw [HYL.out]; exact hlt) hkq, ← ht0] at hstep
        generalize qs[k] = q at hy hstep
        have hSA : ∀ a, BoxS w1 gx #[.int .i64 s.reload, .slice (some ⟨g, 0, none⟩) s.tasks.length cg] 24 a → ∀ j, a.cell? ⟨gx, j, none⟩ = #[.int .i64 s.reload, .slice (some ⟨g, 0, none⟩) s.tasks.length cg][j]? := fun a h => h.at
        have hSQ : ∀ a, BoxS w1 gx #[.int .i64 s.reload, .slice (some ⟨g, 0, none⟩) s.tasks.length cg] 24 a → a.cell? ⟨b5, o5 + k, none⟩ = some (.int .i64 q) := fun a h => hy a h.1
        have HST := Lib.hid hstep
        clear ht0 hstep hy
        go_upto_region 8 with (fail)
        refine wp_region_mix (T := [15, 18, 21]) (S := BoxS w1 gx #[.int .i64 s.reload, .slice (some ⟨g, 0, none⟩) s.tasks.length cg] 24) (W := wr) (fun _ _ h hx => h.ext hx) (by kernel_rfl) (by kernel_rfl) (Ext.refl wr).drew hBS (fun _ _ h => h) (fun K hK => ?_)
        (repeat (first | (refine hX_skip ?_ ?_; (· rfl)) | (apply hX_and; (· rfl); (· rfl); (· rfl); (· rfl); (· rfl); simp only [Act.put, List.setIfInBounds_toArray, List.set_cons_zero, List.set_cons_succ]) | (apply hX_or; (· rfl); (· rfl); (· rfl); (· rfl); (· rfl); simp only [Act.put, List.setIfInBounds_toArray, List.set_cons_zero, List.set_cons_succ]) | (apply hX_off; (· rfl); (· rfl); (· rfl); simp only [Act.put, List.setIfInBounds_toArray, List.set_cons_zero, List.set_cons_succ]) | (apply hX_val; (· rfl); (· intro w hS; go_simp; with_reducible rfl); (· rfl); simp only [Act.put, List.setIfInBounds_toArray, List.set_cons_zero, List.set_cons_succ]) | (apply hX_call; (· rfl); (· rfl); (· intro w hS; go_simp; exact ⟨rfl, rfl⟩); (· intro w hS; fail); simp only [Act.put, List.setIfInBounds_toArray, List.set_cons_zero, List.set_cons_succ]) | (apply hX_if; (· rfl); (· rfl); (· rfl); (· intro hif w hS; go_simp; with_reducible rfl); simp only [Act.put, List.setIfInBounds_toArray, List.set_cons_zero, List.set_cons_succ]) | (apply hX_ifcall; (· rfl); (· rfl); (· rfl); (· intro hif w hS; go_simp; exact ⟨rfl, rfl⟩); (· intro hif w hS; fail); simp only [Act.put, List.setIfInBounds_toArray, List.set_cons_zero, List.set_cons_succ]))); refine hX_nil ?_
        refine hK _ ?_
        clear hK K
        refine wpX_want (i := 15) (by kernel_rfl) rfl (by simp [Region.wanted, yielded]) ?_; intro w' hx K hK; have hPx := hP.ext hx; have hSx2 := hBS.ext hx; obtain ⟨⟨u0, e1⟩, e2⟩ := hPx.cellS (i := k) (k := 3) (by simpa using hkp) (by decide); clear hP hBS; go_simp; have hBS := hSx2.set (i := k * 9 + 3) hg1 hne (.int .i64 2); have hP := hPx.stored2 (i := k) (k := 3) (u := .int .i64 2) (t := modedT 2 t0.q t0.theta t0) (t0 := t0) (r := r0) (by simpa using hkp) (by decide) (hp0) (by simp [encT, modedT]) rfl; refine hK _ _ hBS ?_; clear hK K hx e1 e2 hPx hSx2
        refine wpX_want (i := 18) (by kernel_rfl) rfl (by simp [Region.wanted, yielded]) ?_; intro w' hx K hK; have hPx := hP.ext hx; have hSx2 := hBS.ext hx; obtain ⟨⟨u0, e1⟩, e2⟩ := hPx.cellS (i := k) (k := 4) (by simpa using hkp) (by decide); clear hP hBS; go_simp; have hBS := hSx2.set (i := k * 9 + 4) hg1 hne (.int .i64 0); have hP := hPx.stored2 (i := k) (k := 4) (u := .int .i64 0) (t := modedT 2 0 t0.theta t0) (t0 := modedT 2 t0.q t0.theta t0) (r := r0) (by simpa using hkp) (by decide) (by simp) (by simp [encT, modedT]) rfl; refine hK _ _ hBS ?_; clear hK K hx e1 e2 hPx hSx2
        refine wpX_want (i := 21) (by kernel_rfl) rfl (by simp [Region.wanted, yielded]) ?_; intro w' hx K hK; have hPx := hP.ext hx; have hSx2 := hBS.ext hx; obtain ⟨⟨u0, e1⟩, e2⟩ := hPx.cellS (i := k) (k := 5) (by simpa using hkp) (by decide); clear hP hBS; go_simp; have hBS := hSx2.set (i := k * 9 + 5) hg1 hne (.int .i64 q); have hP := hPx.stored2 (i := k) (k := 5) (u := .int .i64 q) (t := modedT 2 0 q t0) (t0 := modedT 2 0 t0.theta t0) (r := r0) (by simpa using hkp) (by decide) (by simp) (by simp [encT, modedT]) rfl; refine hK _ _ hBS ?_; clear hK K hx e1 e2 hPx hSx2
        rw [List.set_set, List.set_set] at hP
        refine wpX_done (by kernel_rfl) (fun w5 hx5 => ?_) _
        have hP5 := hP.ext hx5
        have hB5 := hBS.ext hx5
        have hmap : (ps.set k (modedT 2 0 q t0, r0)).map (·.1) = ys.take (k + 1) ++ s.tasks.drop (k + 1) := by
          rw [← HST.out, List.map_set, HP.out]
          rfl
        have HM := Lib.hid hmap
        clear hmap hP hBS hSA hSQ
        go_wp2_with (fail)
        exact ⟨⟨k + 1, _, hlt, rfl, hP5, HM, hB5⟩, by simp [intOf]; omega⟩
      · have hke : k = s.tasks.length := Nat.le_antisymm hk (Nat.not_lt.1 hlt)
        have hmy : ps.map (·.1) = ys := by
          rw [HP.out, hke, List.drop_length, List.append_nil, List.take_of_length_le (by rw [HYL.out]; exact Nat.le_refl _)]
        have HMY := Lib.hid hmy
        have hE := hBS.1
        have hRr := hRe wr hE
        have hc2 := hBS.at
        have hc3 := hRr.cell
        have hf3 := hRr.free
        clear hmy
        go_wp2_with (fail)
        have hR2 := hRr.set 0 (.int .i64 s.reload)
        have hR3 := hR2.set 1 (.slice (some ⟨g, 0, none⟩) s.tasks.length cg)
        have hcR := hR3.cell
        refine bodyPost_ret (v := .tuple #[setV s (.slice (some ⟨g, 0, none⟩) s.tasks.length cg), .bool true]) ?_ rfl ⟨_, by rw [HSS.out, HGE.out]; rfl, ?_, ?_⟩
        · simp [results, Tryz.results10, go_sem, hcR, setV]
        · have hP2 := ((hP.set hRr 0 (.int .i64 s.reload)).set hR2 1 (.slice (some ⟨g, 0, none⟩) s.tasks.length cg)).tasks
          rw [HMY.out] at hP2
          rw [HSS.out, HYS.out]
          exact hP2
        · exact (((hX0.trans (hE1.trans hE)).set (by omega) _).set (by omega) _).below
end Go.Proofs.YtknfdjnbndfboabGreatDoor
