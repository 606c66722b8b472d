/- ref15.Of, ref15.Put. -/
import Derived.Test.YtknfdjnbndfboaaGreatDoorProg
import Derived.Test.YtknfdjnbndfboaaGreatDoorOwnB
import Derived.Test.YtknfdjnbndfboaaGreatDoorBase
import Derived.Test.YtknfdjnbndfboaaGreatDoorHeldX
import Derived.Test.YtknfdjnbndfboaaGreatDoorApp
import Derived.Test.YtknfdjnbndfboaaGreatDoorTsk1
import Derived.Test.YtknfdjnbndfboaaGreatDoorTsk3
import Derived.Test.YtknfdjnbndfboaaGreatDoorTsk4
import Derived.Test.YtknfdjnbndfboaaGreatDoorTskZ
import Derived.Test.YtknfdjnbndfboaaGreatDoorTskP
import Derived.Test.YtknfdjnbndfboaaGreatDoorTskN
import Derived.Test.YtknfdjnbndfboaaGreatDoorTskA
import Derived.Test.YtknfdjnbndfboaaGreatDoorTskO
import Derived.Test.YtknfdjnbndfboaaGreatDoorSetO
import Derived.Test.YtknfdjnbndfboaaGreatDoorRespS
import Derived.Test.YtknfdjnbndfboaaGreatDoorResp
import Derived.Test.YtknfdjnbndfboaaGreatDoorTolA
import Derived.Test.YtknfdjnbndfboaaGreatDoorTolP
import Derived.Test.YtknfdjnbndfboaaGreatDoorTol14
import Derived.Test.YtknfdjnbndfboaaGreatDoorRef8
import Derived.Test.YtknfdjnbndfboaaGreatDoorSprO
import Derived.Test.YtknfdjnbndfboaaGreatDoorSprP
import Derived.Deep.Cut
import Derived.Lib.Hide
namespace Go.Proofs.YtknfdjnbndfboaaGreatDoor
open Go.RowKit
attribute [local go_sem] setCell_twice ByteArray.toList_eq str_list Ext.alloc Ext.drew
set_option linter.unusedSimpArgs false
set_option maxRecDepth 100000
set_option maxHeartbeats 6400000
attribute [local irreducible] popN Calls

/-- what ref15.Of answers of a set that may be -/
def spreadR (s : TSet) : Option (List Int) := (tolL s s.tasks.length).map fun bs => qsL (workH s) bs s.tasks.length
theorem ref15Of_any (s : TSet) (v : Value) (w : World) (hv : Tasks w v s.tasks) (hs : Fine s) :
    Calls Tryz.prog 18 #[setV s v] w fun e w' => ∃ v', e = .returned (.tuple #[v', .bool (spreadR s).isSome]) ∧ RowI w' w.heap.size v' ((spreadR s).getD []) ∧ Below w.heap.size w w' := by
  have l1 := hv.len
  have hlen := hs.len
  have hv0 := hv
  obtain ⟨A, c, rfl, hle, hcm, _⟩ := hv0
  unfold maxLen at hcm
  go_enter Tryz.func18, Tryz.ntmps18
  unfold setV
  go_upto_region 1 with (fail)
  have hL : Below w.heap.size w (w.alloc (.cells #[.int .i64 s.reload, (.slice A s.tasks.length c)] 24)) := (by repeat (first | exact Below.refl _ _ | assumption | refine Below.drew ?_ | refine Below.alloc ?_ (by first | (simp; done) | (simp; omega) | omega) _ | refine Below.setCell ?_ (by first | (simp; done) | (simp; omega) | omega) _)); have hB : Blk (w.alloc (.cells #[.int .i64 s.reload, (.slice A s.tasks.length c)] 24)) w.heap.size #[.int .i64 s.reload, (.slice A s.tasks.length c)] 24 := Blk.new _ _ _
  have hr := hv.ext ⟨hL⟩
  generalize w.alloc _ = W at hL hB hr ⊢
  have hc := hB.under
  have hA := ref14All_any s (.slice A s.tasks.length c) W hr hs
  have hsq : spreadR s = (tolL s s.tasks.length).map fun bs => qsL (workH s) bs s.tasks.length := rfl
  have hts : ∀ bs, tolL s s.tasks.length = some bs → bs.length = s.tasks.length := fun bs h => tolL_len s _ _ h
  generalize tolL s s.tasks.length = o at hA hsq hts
  have hc0 := hc W (Ext.refl W)
  cases o with
  | none =>
    have HSQ := Lib.hid hsq
    clear hsq hts
    go_wp2_with (fail)
    refine hA.mono ?_
    rintro e w1 ⟨v1, rfl, hO, hb1⟩
    clear hO
    go_wp2_with (fail)
    exact bodyPost_ret (v := .tuple #[.slice none 0 0, .bool false]) (by simp [results, Tryz.results18, go_sem, *]) rfl ⟨_, by rw [HSQ.out]; rfl, by rw [HSQ.out]; exact OwnL.nil, hL.trans (((Ext.refl W).call hb1).below.mono hL.size)⟩
  | some bs =>
    have hbl := hts bs rfl
    have hsq2 : spreadR s = some (qsL (workH s) bs s.tasks.length) := hsq
    have HSQ := Lib.hid hsq2
    clear hsq hsq2 hts
    have hA : Calls Tryz.prog 34 #[setV s (.slice A s.tasks.length c)] W fun e w' => ∃ v', e = .returned (.tuple #[v', .bool true]) ∧ RowI w' W.heap.size v' bs ∧ Below W.heap.size W w' := hA
    have hwh := workH_eq (show 0 < s.tasks.length by omega)
    have HW := Lib.hid fun W' (h : Ext W W') => work8_any s (.slice A s.tasks.length c) 0 W' (hr.ext h) (show 0 < s.tasks.length by omega)
    rw [← hwh] at HW
    have hq0 : qsL (workH s) bs 1 = [workH s] := rfl
    generalize workH s = w0 at HSQ HW hq0
    clear hwh
    go_wp2_with (fail)
    refine hA.mono ?_
    rintro e w1 ⟨v1, rfl, hO, hb1⟩
    have hX1 : Ext W w1 := ⟨hb1⟩
    obtain ⟨A1, c1, rfl, hc1l, hc1m⟩ := OwnL.form hO
    have hI1 : Ints w1 (.slice A1 s.tasks.length c1) bs := by rw [← hbl]; exact hO.ints
    have hcm1 : s.tasks.length ≤ c1 := by omega
    obtain ⟨bq, oq, rfl, hz0⟩ := hI1.at (k := 0) (by omega)
    have hb00 : minAt bs 0 = bs[0]'(by omega) := getD_at (show 0 < bs.length by omega) 0
    rw [← hb00, Nat.add_zero] at hz0
    rw [hbl]
    clear hc0 hO hb00
    have hc1 := hc w1 hX1
    go_wp2_with (fail)
    refine (HW.out w1 hX1).mono ?_
    rintro e w2 ⟨rfl, hb2⟩
    have hX2 := hX1.call hb2
    have hI2 := hI1.ext ⟨hb2⟩
    clear hc1
    have hHBL := Lib.hid hbl
    clear hbl
    go_upto_region 5 with (fail)
    have hX3 : Ext w1 (w2.alloc (.cells #[.int .i64 w0] 2)) := (Ext.mk hb2).alloc (.cells #[.int .i64 w0] 2)
    have hO3 : RowI (w2.alloc (.cells #[.int .i64 w0] 2)) w1.heap.size (.slice (some ⟨w2.heap.size, 0, none⟩) 1 1) [w0] := row_one w2 w0 (Ext.mk hb2).size
    rw [← hq0] at hO3
    generalize w2.heap.size = g3 at hO3 ⊢
    generalize w2.alloc _ = w3 at hX3 hO3 ⊢
    go_wp2_with (fail)
    go_loopw [6, 7] (fun l i wr => ∃ q : Nat, 1 ≤ q ∧ q ≤ s.tasks.length ∧ i = .int .i64 q ∧ RowI wr w1.heap.size l (qsL w0 bs q) ∧ Ext w1 wr) (fun _ i _ => s.tasks.length - (intOf i).toNat)
    case atStart => exact ⟨1, Nat.le_refl _, hlen.1, rfl, hO3, hX3⟩
    case round =>
      obtain ⟨q, hq1, hq, rfl, hO, hX⟩ := hrel
      have hcr := hc wr (hX1.trans hX)
      by_cases hlt : q < s.tasks.length
      · have hst : qsL w0 bs (q + 1) = qsL w0 bs q ++ [minAt bs (q - 1)] := by
          rw [qsL_succ]
          obtain ⟨p, rfl⟩ : ∃ p, q = p + 1 := ⟨q - 1, by omega⟩
          rfl
        have hll := qsL_len w0 bs q
        have HST := Lib.hid hst
        clear hst
        generalize qsL w0 bs q = ls at hO hll HST
        have HLL := Lib.hid hll
        clear hll
        obtain ⟨Av, cv, rfl, _, _⟩ := OwnL.form hO
        have hz0r := hz0 wr hX
        clear hq0
        go_wp2_with (fail)
        go_loop [8, 9] (fun m i => ∃ k : Nat, 1 ≤ k ∧ k ≤ q ∧ m = .int .i64 (minAt bs (k - 1)) ∧ i = .int .i64 k) (fun _ i => q - (intOf i).toNat)
        case atStart => exact ⟨1, Nat.le_refl _, hq1, rfl, rfl⟩
        case round =>
          obtain ⟨k, hk1, hkq, rfl, rfl⟩ := hrel
          by_cases hlk : k < q
          · obtain ⟨b2, o2, e, hy⟩ := hI1.at (k := k) (by rw [hHBL.out]; omega)
            obtain ⟨rfl, rfl⟩ : b2 = bq ∧ o2 = oq := by cases e; exact ⟨rfl, rfl⟩
            have hy0 := hy wr hX
            have hs2 : minAt bs (k + 1 - 1) = min (minAt bs (k - 1)) (bs[k]'(by rw [hHBL.out]; omega)) := by
              obtain ⟨p, rfl⟩ : ∃ p, k = p + 1 := ⟨k - 1, by omega⟩
              show min (minAt bs p) (bs.getD (p + 1) 0) = _
              rw [getD_at (by rw [hHBL.out]; omega)]
              rfl
            generalize bs[k]'(by rw [hHBL.out]; omega) = x at hy0 hs2
            have HS := Lib.hid hs2
            clear hs2 hy hz0r
            generalize minAt bs (k - 1) = m at HS ⊢
            have hks : k < s.tasks.length := by omega
            go_wp2_with (fail)
            exact ⟨⟨k + 1, by omega, hlk, by rw [HS.out], rfl⟩, by simp [intOf]; omega⟩
          · have hke : k = q := Nat.le_antisymm hkq (Nat.not_lt.1 hlk)
            subst hke
            generalize minAt bs (k - 1) = m at HST ⊢
            go_wp2_with (at_builtin; (refine wpList_push rfl _ _ 26 rfl w1.heap.size 2 Tryz.underlying26 infoI64 rfl (by decide) (by decide) encI ls _ rfl (hO.alloc _) m wr.heap.size #[.int .i64 m] 2 rfl (Blk.new _ _ _) rfl rfl (by simp [encI, Value.oneCell']) ?_ ?_ ?_; (· have := HLL.out; omega); (· have := hX.size; simp; omega); (intro v2 w8 hown hg hloc _)))
            have hX8 : Ext w1 w8 := (hX.alloc (.cells #[.int .i64 m] 2)).grown hg (fun j hj => (OwnL.lt hO j hj).1)
            exact ⟨⟨k + 1, by omega, hlt, rfl, by rw [HST.out]; exact hown, hX8⟩, by simp [intOf]; omega⟩
      · have hqe : q = s.tasks.length := Nat.le_antisymm hq (Nat.not_lt.1 hlt)
        subst hqe
        obtain ⟨Av, cv, rfl, _, _⟩ := OwnL.form hO
        go_wp2_with (fail)
        exact bodyPost_ret (v := .tuple #[.slice Av (qsL w0 bs s.tasks.length).length cv, .bool true]) (by simp [results, Tryz.results18, go_sem, *]) rfl ⟨_, by rw [HSQ.out]; rfl, by rw [HSQ.out]; exact OwnL.lower hO (Nat.le_trans hL.size hX1.size), hL.trans ((hX1.trans hX).below.mono hL.size)⟩
/-- what ref15.Put answers of a set that may be -/
def spreadRS (s : TSet) : TSet := match spreadR s with
  | some qs => zipT floatT s qs
  | none => ⟨0, []⟩
theorem ref15Put_any (s : TSet) (v : Value) (w : World) (hv : Tasks w v s.tasks) (hs : Fine s) (hf : s.fit) :
    Calls Tryz.prog 20 #[setV s v] w fun e w' => ∃ v', e = .returned (.tuple #[setV (spreadRS s) v', .bool (spreadR s).isSome]) ∧ Tasks w' v' (spreadRS s).tasks ∧ Below w.heap.size w w' := by
  have l1 := hv.len
  have hlen := hs.len
  have hv0 := hv
  obtain ⟨A, c, rfl, hle, hcm, _⟩ := hv0
  unfold maxLen at hcm
  go_enter Tryz.func20, Tryz.ntmps20
  unfold setV
  go_upto_region 1 with (fail)
  have hL : Below w.heap.size w ((w.alloc (.cells #[.int .i64 s.reload, .slice A s.tasks.length c] 24)).alloc (.cells #[.int .i64 0, .slice none 0 0] 24)) := (by repeat (first | exact Below.refl _ _ | assumption | refine Below.drew ?_ | refine Below.alloc ?_ (by first | (simp; done) | (simp; omega) | omega) _ | refine Below.setCell ?_ (by first | (simp; done) | (simp; omega) | omega) _))
  have hB : Blk ((w.alloc (.cells #[.int .i64 s.reload, .slice A s.tasks.length c] 24)).alloc (.cells #[.int .i64 0, .slice none 0 0] 24)) w.heap.size #[.int .i64 s.reload, .slice A s.tasks.length c] 24 := (Blk.new _ _ _).alloc _
  have hR : Blk ((w.alloc (.cells #[.int .i64 s.reload, .slice A s.tasks.length c] 24)).alloc (.cells #[.int .i64 0, .slice none 0 0] 24)) (w.heap.size + 1) #[.int .i64 0, .slice none 0 0] 24 := Blk.new_at _ _ _ _ (by simp)
  have hr := hv.ext ⟨hL⟩
  generalize (w.alloc _).alloc _ = W at hL hB hR hr ⊢
  have hc := hB.cell
  have hA := ref15Of_any s (.slice A s.tasks.length c) W hr hs
  have hss : spreadRS s = match spreadR s with | some qs => zipT floatT s qs | none => ⟨0, []⟩ := rfl
  have hqp : ∀ qs, spreadR s = some qs → qs.length = s.tasks.length := fun qs h => by
    unfold spreadR at h
    cases ho : tolL s s.tasks.length with
    | none => rw [ho] at h; cases h
    | some bs =>
      rw [ho] at h
      rw [← Option.some.inj h]
      exact qsL_len _ _ _
  have hX0 : Ext w W := ⟨hL⟩
  generalize hge : spreadR s = o at hA hss hqp
  have HGE := Lib.hid hge
  clear hge
  cases o with
  | none =>
    have HSS := Lib.hid hss
    clear hss hqp
    go_wp2_with (fail)
    refine hA.mono ?_
    rintro e w1 ⟨v1, rfl, hO, hb1⟩
    have hX1 := hX0.call hb1
    have hR1 := hR.ext ⟨hb1⟩
    have hcR := hR1.cell
    have hfR := hR1.free
    clear hO hc
    go_wp2_with (fail)
    have hR2 := hR1.set 0 (.int .i64 0)
    have hR3 := hR2.set 1 (.slice none 0 0)
    have hc3 := hR3.cell
    refine bodyPost_ret (v := .tuple #[setV ⟨0, []⟩ (.slice none 0 0), .bool false]) (by simp [setV, results, Tryz.results20, go_sem, hc3]) rfl ⟨_, by rw [HSS.out, HGE.out]; rfl, by rw [HSS.out]; exact (PutOwn.nil (base := 0)).tasks, ((hX1.set (by omega) _).set (by omega) _).below⟩
  | some qs =>
    have hql := hqp qs rfl
    have hss2 : spreadRS s = zipT floatT s qs := hss
    have HSS := Lib.hid hss2
    clear hss hss2 hqp
    have hA : Calls Tryz.prog 18 #[setV s (.slice A s.tasks.length c)] W fun e w' => ∃ v', e = .returned (.tuple #[v', .bool true]) ∧ RowI w' W.heap.size v' qs ∧ Below W.heap.size W w' := hA
    go_wp2_with (fail)
    refine hA.mono ?_
    rintro e w1 ⟨v1, rfl, hO, hb1⟩
    obtain ⟨A1, c1, rfl, _, _⟩ := OwnL.form hO
    have hI1 : Ints w1 (.slice A1 s.tasks.length c1) qs := by rw [← hql]; exact hO.ints
    have hE1 : Ext W w1 := ⟨hb1⟩
    have hR1 := hR.ext hE1
    have HQL := Lib.hid hql
    rw [hql]
    have hU := put_any s (.slice A s.tasks.length c) w1 (hr.ext hE1) hf
    have hc1 := (hB.ext hE1).cell
    obtain ⟨bq, oq, rfl, hz0⟩ := hI1.at (k := 0) (by omega)
    clear hc hO hql hb1 hB hR hz0
    go_wp2_with (fail)
    refine hU.mono ?_
    rintro e w2 ⟨v2, ps, rfl, hP2, hps, hb2⟩
    have hE2 : Ext w1 w2 := ⟨hb2⟩
    have hnl : ps.length = s.tasks.length := by rw [← hps, List.length_map]
    obtain ⟨g, cg, rfl, hg1, hg2⟩ := hP2.head (by intro e; rw [e] at hnl; simp at hnl; omega)
    rw [hnl] at hP2 ⊢
    clear hc1
    unfold setV
    dsimp only
    go_upto_region 5 with (fail)
    have hE3 := hE2.alloc (.cells #[.int .i64 s.reload, .slice (some ⟨g, 0, none⟩) s.tasks.length cg] 24)
    have hBx : Blk (w2.alloc (.cells #[.int .i64 s.reload, .slice (some ⟨g, 0, none⟩) s.tasks.length cg] 24)) w2.heap.size #[.int .i64 s.reload, .slice (some ⟨g, 0, none⟩) s.tasks.length cg] 24 := Blk.new _ _ _
    have hP3 := hP2.ext ((Ext.refl w2).alloc (.cells #[.int .i64 s.reload, .slice (some ⟨g, 0, none⟩) s.tasks.length cg] 24))
    have hne : w2.heap.size ≠ g := Nat.ne_of_gt hg2
    clear hP2 hb2 hE2 hg2
    generalize w2.heap.size = gx at hBx hne ⊢
    generalize w2.alloc _ = w3 at hE3 hBx hP3 ⊢
    have hBS3 : BoxS w1 gx #[.int .i64 s.reload, .slice (some ⟨g, 0, none⟩) s.tasks.length cg] 24 w3 := ⟨hE3, hBx⟩
    have hyl := zipT_len floatT s qs HQL.out
    have hyg := Lib.hid fun j (h1 : j < s.tasks.length) (h2 : j < (zipT floatT s qs).tasks.length) (h3 : j < qs.length) => zipT_get floatT s qs j h2 h1 h3
    have hps3 : ps.map (·.1) = (zipT floatT s qs).tasks.take 0 ++ s.tasks.drop 0 := by rw [hps]; rfl
    generalize hys : (zipT floatT s qs).tasks = ys at hyl hyg hps3
    have HYS := Lib.hid hys
    clear hys
    have HYL := Lib.hid hyl
    have hRe := fun w' (h : Ext w1 w') => hR1.ext h
    clear hps hnl hyl hBx hE3
    go_wp2_with (fail)
    go_loopw [7] (fun i wr => ∃ (k : Nat) (ps : List (Tsk × Value)), k ≤ s.tasks.length ∧ i = .int .i64 k ∧ PutOwn wr w1.heap.size (.slice (some ⟨g, 0, none⟩) s.tasks.length cg) ps ∧ Hid (ps.map (·.1) = ys.take k ++ s.tasks.drop k) ∧ BoxS w1 gx #[.int .i64 s.reload, .slice (some ⟨g, 0, none⟩) s.tasks.length cg] 24 wr) (fun i _ => s.tasks.length - (intOf i).toNat)
    case atStart => exact ⟨0, ps, Nat.zero_le _, rfl, hP3, Lib.hid hps3, hBS3⟩
    case round =>
      obtain ⟨k, ps, hk, rfl, hP, HP, hBS⟩ := hrel
      by_cases hlt : k < s.tasks.length
      · have hkl : ps.length = s.tasks.length := by
          have := congrArg List.length HP.out
          have h2 := HYL.out
          simp at this
          omega
        have hkp : k < ps.length := by omega
        obtain ⟨⟨t0, r0⟩, hp0⟩ : ∃ p, ps[k] = p := ⟨_, rfl⟩
        have ht0 : t0 = s.tasks[k] := by
          have h1 : (ps.map (·.1))[k]? = (ys.take k ++ s.tasks.drop k)[k]? := by rw [HP.out]
          rw [List.getElem?_eq_getElem (by rw [List.length_map]; exact hkp), List.getElem?_eq_getElem (by have := HYL.out; simp; omega)] at h1
          have h2 := Option.some.inj h1
          rw [List.getElem_map, hp0, back_at HYL.out.symm (by rw [HYL.out]; exact hlt)] at h2
          exact h2
        have hkq : k < qs.length := by rw [HQL.out]; exact hlt
        obtain ⟨b5, o5, e5, hy⟩ := hI1.at hkq
        obtain ⟨rfl, rfl⟩ : b5 = bq ∧ o5 = oq := by cases e5; exact ⟨rfl, rfl⟩
        have hstep := back_step HYL.out.symm (by rw [HYL.out]; exact hlt : k < ys.length)
        rw [hyg.out k hlt (by rw [HYL.out]; exact hlt) hkq, ← ht0] at hstep
        generalize qs[k] = q at hy hstep
        have hSA : ∀ a, BoxS w1 gx #[.int .i64 s.reload, .slice (some ⟨g, 0, none⟩) s.tasks.length cg] 24 a → ∀ j, a.cell? ⟨gx, j, none⟩ = #[.int .i64 s.reload, .slice (some ⟨g, 0, none⟩) s.tasks.length cg][j]? := fun a h => h.at
        have hSQ : ∀ a, BoxS w1 gx #[.int .i64 s.reload, .slice (some ⟨g, 0, none⟩) s.tasks.length cg] 24 a → a.cell? ⟨b5, o5 + k, none⟩ = some (.int .i64 q) := fun a h => hy a h.1
        have HST := Lib.hid hstep
        clear ht0 hstep hy
        go_upto_region 8 with (fail)
        refine wp_region_mix (T := [15, 18, 21]) (S := BoxS w1 gx #[.int .i64 s.reload, .slice (some ⟨g, 0, none⟩) s.tasks.length cg] 24) (W := wr) (fun _ _ h hx => h.ext hx) (by kernel_rfl) (by kernel_rfl) (Ext.refl wr).drew hBS (fun _ _ h => h) (fun K hK => ?_)
        (repeat (first | (refine hX_skip ?_ ?_; (· rfl)) | (apply hX_and; (· rfl); (· rfl); (· rfl); (· rfl); (· rfl); simp only [Act.put, List.setIfInBounds_toArray, List.set_cons_zero, List.set_cons_succ]) | (apply hX_or; (· rfl); (· rfl); (· rfl); (· rfl); (· rfl); simp only [Act.put, List.setIfInBounds_toArray, List.set_cons_zero, List.set_cons_succ]) | (apply hX_off; (· rfl); (· rfl); (· rfl); simp only [Act.put, List.setIfInBounds_toArray, List.set_cons_zero, List.set_cons_succ]) | (apply hX_val; (· rfl); (· intro w hS; go_simp; with_reducible rfl); (· rfl); simp only [Act.put, List.setIfInBounds_toArray, List.set_cons_zero, List.set_cons_succ]) | (apply hX_call; (· rfl); (· rfl); (· intro w hS; go_simp; exact ⟨rfl, rfl⟩); (· intro w hS; fail); simp only [Act.put, List.setIfInBounds_toArray, List.set_cons_zero, List.set_cons_succ]) | (apply hX_if; (· rfl); (· rfl); (· rfl); (· intro hif w hS; go_simp; with_reducible rfl); simp only [Act.put, List.setIfInBounds_toArray, List.set_cons_zero, List.set_cons_succ]) | (apply hX_ifcall; (· rfl); (· rfl); (· rfl); (· intro hif w hS; go_simp; exact ⟨rfl, rfl⟩); (· intro hif w hS; fail); simp only [Act.put, List.setIfInBounds_toArray, List.set_cons_zero, List.set_cons_succ]))); refine hX_nil ?_
        refine hK _ ?_
        clear hK K
        refine wpX_want (i := 15) (by kernel_rfl) rfl (by simp [Region.wanted, yielded]) ?_; intro w' hx K hK; have hPx := hP.ext hx; have hSx2 := hBS.ext hx; obtain ⟨⟨u0, e1⟩, e2⟩ := hPx.cellS (i := k) (k := 3) (by simpa using hkp) (by decide); clear hP hBS; go_simp; have hBS := hSx2.set (i := k * 9 + 3) hg1 hne (.int .i64 1); have hP := hPx.stored2 (i := k) (k := 3) (u := .int .i64 1) (t := modedT 1 t0.q t0.theta t0) (t0 := t0) (r := r0) (by simpa using hkp) (by decide) (hp0) (by simp [encT, modedT]) rfl; refine hK _ _ hBS ?_; clear hK K hx e1 e2 hPx hSx2
        refine wpX_want (i := 18) (by kernel_rfl) rfl (by simp [Region.wanted, yielded]) ?_; intro w' hx K hK; have hPx := hP.ext hx; have hSx2 := hBS.ext hx; obtain ⟨⟨u0, e1⟩, e2⟩ := hPx.cellS (i := k) (k := 4) (by simpa using hkp) (by decide); clear hP hBS; go_simp; have hBS := hSx2.set (i := k * 9 + 4) hg1 hne (.int .i64 q); have hP := hPx.stored2 (i := k) (k := 4) (u := .int .i64 q) (t := modedT 1 q t0.theta t0) (t0 := modedT 1 t0.q t0.theta t0) (r := r0) (by simpa using hkp) (by decide) (by simp) (by simp [encT, modedT]) rfl; refine hK _ _ hBS ?_; clear hK K hx e1 e2 hPx hSx2
        refine wpX_want (i := 21) (by kernel_rfl) rfl (by simp [Region.wanted, yielded]) ?_; intro w' hx K hK; have hPx := hP.ext hx; have hSx2 := hBS.ext hx; obtain ⟨⟨u0, e1⟩, e2⟩ := hPx.cellS (i := k) (k := 5) (by simpa using hkp) (by decide); clear hP hBS; go_simp; have hBS := hSx2.set (i := k * 9 + 5) hg1 hne (.int .i64 0); have hP := hPx.stored2 (i := k) (k := 5) (u := .int .i64 0) (t := modedT 1 q 0 t0) (t0 := modedT 1 q t0.theta t0) (r := r0) (by simpa using hkp) (by decide) (by simp) (by simp [encT, modedT]) rfl; refine hK _ _ hBS ?_; clear hK K hx e1 e2 hPx hSx2
        rw [List.set_set, List.set_set] at hP
        refine wpX_done (by kernel_rfl) (fun w5 hx5 => ?_) _
        have hP5 := hP.ext hx5
        have hB5 := hBS.ext hx5
        have hmap : (ps.set k (modedT 1 q 0 t0, r0)).map (·.1) = ys.take (k + 1) ++ s.tasks.drop (k + 1) := by
          rw [← HST.out, List.map_set, HP.out]
          rfl
        have HM := Lib.hid hmap
        clear hmap hP hBS hSA hSQ
        go_wp2_with (fail)
        exact ⟨⟨k + 1, _, hlt, rfl, hP5, HM, hB5⟩, by simp [intOf]; omega⟩
      · have hke : k = s.tasks.length := Nat.le_antisymm hk (Nat.not_lt.1 hlt)
        have hmy : ps.map (·.1) = ys := by
          rw [HP.out, hke, List.drop_length, List.append_nil, List.take_of_length_le (by rw [HYL.out]; exact Nat.le_refl _)]
        have HMY := Lib.hid hmy
        have hE := hBS.1
        have hRr := hRe wr hE
        have hc2 := hBS.at
        have hc3 := hRr.cell
        have hf3 := hRr.free
        clear hmy
        go_wp2_with (fail)
        have hR2 := hRr.set 0 (.int .i64 s.reload)
        have hR3 := hR2.set 1 (.slice (some ⟨g, 0, none⟩) s.tasks.length cg)
        have hcR := hR3.cell
        refine bodyPost_ret (v := .tuple #[setV s (.slice (some ⟨g, 0, none⟩) s.tasks.length cg), .bool true]) ?_ rfl ⟨_, by rw [HSS.out, HGE.out]; rfl, ?_, ?_⟩
        · simp [results, Tryz.results20, go_sem, hcR, setV]
        · have hP2 := ((hP.set hRr 0 (.int .i64 s.reload)).set hR2 1 (.slice (some ⟨g, 0, none⟩) s.tasks.length cg)).tasks
          rw [HMY.out] at hP2
          rw [HSS.out, HYS.out]
          exact hP2
        · exact (((hX0.trans (hE1.trans hE)).set (by omega) _).set (by omega) _).below
end Go.Proofs.YtknfdjnbndfboaaGreatDoor
