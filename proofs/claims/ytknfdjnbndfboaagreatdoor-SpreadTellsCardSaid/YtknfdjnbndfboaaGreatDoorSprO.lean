/- spread.Of, ref15.Of; slices.Min. -/
import Derived.Test.YtknfdjnbndfboaaGreatDoorProg
import Derived.Test.YtknfdjnbndfboaaGreatDoorBase
import Derived.Test.YtknfdjnbndfboaaGreatDoorHeldX
import Derived.Test.YtknfdjnbndfboaaGreatDoorApp
import Derived.Test.YtknfdjnbndfboaaGreatDoorTsk1
import Derived.Test.YtknfdjnbndfboaaGreatDoorTsk3
import Derived.Test.YtknfdjnbndfboaaGreatDoorTsk4
import Derived.Test.YtknfdjnbndfboaaGreatDoorTskZ
import Derived.Test.YtknfdjnbndfboaaGreatDoorTskP
import Derived.Test.YtknfdjnbndfboaaGreatDoorTskA
import Derived.Test.YtknfdjnbndfboaaGreatDoorTskO
import Derived.Test.YtknfdjnbndfboaaGreatDoorSetO
import Derived.Test.YtknfdjnbndfboaaGreatDoorRespS
import Derived.Test.YtknfdjnbndfboaaGreatDoorResp
import Derived.Test.YtknfdjnbndfboaaGreatDoorTolA
import Derived.Test.YtknfdjnbndfboaaGreatDoorTolP
import Derived.Test.YtknfdjnbndfboaaGreatDoorRef8
import Derived.Deep.Cut
import Derived.Lib.Hide
namespace Go.Proofs.YtknfdjnbndfboaaGreatDoor
open Go.RowKit
attribute [local go_sem] setCell_twice ByteArray.toList_eq str_list Ext.alloc Ext.drew
set_option linter.unusedSimpArgs false
set_option maxRecDepth 100000
set_option maxHeartbeats 6400000
attribute [local irreducible] popN

/-- the least of the first i + 1 -/
def minAt (bs : List Int) : Nat → Int
  | 0 => bs.getD 0 0
  | i + 1 => min (minAt bs i) (bs.getD (i + 1) 0)
theorem minAt_take (bs : List Int) (n : Nat) : ∀ i, i < n → minAt (bs.take n) i = minAt bs i
  | 0, h => by
    unfold minAt
    cases bs <;> cases n <;> first | rfl | omega
  | i + 1, h => by
    have := minAt_take bs n i (by omega)
    unfold minAt
    rw [this]
    congr 1
    simp [List.getD, List.getElem?_take, h]
theorem slMin_any (xs : List Int) (v : Value) (w : World) (hv : Ints w v xs) (h1 : 1 ≤ xs.length) :
    Calls Tryz.prog 33 #[v] w fun e w' => e = .returned (.int .i64 (minAt xs (xs.length - 1))) ∧ w = w' := by
  have hv0 := hv
  obtain ⟨A, c, rfl, hle, hcm, _⟩ := hv0
  unfold maxLen at hcm
  obtain ⟨b, o, rfl, hx⟩ := hv.at (show 0 < xs.length by omega)
  have hx0 := hx w (Ext.refl w)
  have hone : minAt xs 0 = xs[0] := getD_at (show 0 < xs.length by omega) 0
  rw [← hone, Nat.add_zero] at hx0
  clear hx hone
  go_enter Tryz.func33, Tryz.ntmps33
  go_wp2_with (fail)
  go_loop [3, 4] (fun m i => ∃ k : Nat, k < xs.length ∧ m = .int .i64 (minAt xs k) ∧ i = .int .i64 (k + 1 : Nat)) (fun _ i => xs.length - (intOf i).toNat)
  case atStart => exact ⟨0, by omega, rfl, by simp⟩
  case round =>
    obtain ⟨k, hk, rfl, rfl⟩ := hrel
    by_cases hlt : k + 1 < xs.length
    · obtain ⟨b2, o2, e, hy⟩ := hv.at hlt
      obtain ⟨rfl, rfl⟩ : b2 = b ∧ o2 = o := by cases e; exact ⟨rfl, rfl⟩
      have hy0 := hy w (Ext.refl w)
      have hs : minAt xs (k + 1) = min (minAt xs k) xs[k + 1] := by
        show min (minAt xs k) (xs.getD (k + 1) 0) = _
        rw [getD_at hlt]
      generalize xs[k + 1] = x at hy0 hs
      have HS := Lib.hid hs
      clear hs hy
      obtain ⟨k1, hk1⟩ : ∃ k1, k1 = k + 1 := ⟨_, rfl⟩
      rw [← hk1] at HS hy0 hlt ⊢
      have HK := Lib.hid hk1
      clear hk1
      generalize minAt xs k = m at HS ⊢
      go_wp2_with (fail)
      exact ⟨⟨k1, hlt, by rw [HS.out], rfl⟩, by simp [intOf]; omega⟩
    · have hke : k = xs.length - 1 := by omega
      subst hke
      have hke2 : xs.length - 1 + 1 = xs.length := by omega
      rw [hke2]
      go_wp2_with (fail)
      go_ret
      exact ⟨rfl, rfl⟩
/-- the longest Q of task i -/
def qAt (w0 : Int) (bs : List Int) : Nat → Int
  | 0 => w0
  | i + 1 => minAt bs i
def qsL (w0 : Int) (bs : List Int) (n : Nat) : List Int := (List.range n).map (qAt w0 bs)
theorem qsL_succ (w0 : Int) (bs : List Int) (n : Nat) : qsL w0 bs (n + 1) = qsL w0 bs n ++ [qAt w0 bs n] := by
  unfold qsL
  rw [List.range_succ, List.map_append]
  rfl
theorem qsL_len (w0 : Int) (bs : List Int) (n : Nat) : (qsL w0 bs n).length = n := by unfold qsL; simp
/-- the work of the first task -/
def workH (s : TSet) : Int := match s.tasks with
  | [] => 0
  | t :: _ => workL t.regs
theorem workH_eq {s : TSet} (h : 0 < s.tasks.length) : workH s = workL s.tasks[0].regs := by
  obtain ⟨r, ts⟩ := s
  cases ts with
  | nil => simp at h
  | cons t ts => rfl
def spreadQ (s : TSet) : Option (List Int) := (tolS s).map fun bs => qsL (workH s) bs s.tasks.length
theorem tolS_some {s : TSet} {bs : List Int} (h : tolS s = some bs) : allB s = true ∧ tolL s s.tasks.length = some bs ∧ bs.length = s.tasks.length := by
  unfold tolS at h
  split at h
  · rename_i ha
    exact ⟨ha, h, tolL_len s _ _ h⟩
  · cases h
theorem row_one (w : World) (x : Int) {base : Nat} (hb : base ≤ w.heap.size) : RowI (w.alloc (.cells #[.int .i64 x] 2)) base (.slice (some ⟨w.heap.size, 0, none⟩) 1 1) [x] := by
  unfold RowI OwnL
  exact ⟨by simp [encI], .inr ⟨w.heap.size, 1, #[.int .i64 x], rfl, hb, heap_alloc_new w _, Nat.le_refl _, by unfold maxLen; decide, rfl, by simp [encI]⟩⟩
theorem spreadOf_any (s : TSet) (v : Value) (w : World) (hv : Tasks w v s.tasks) (hf : s.fit) (hG : GOK w) :
    Calls Tryz.prog 17 #[setV s v] w fun e w' => ∃ v', e = .returned (.tuple #[v', .bool (spreadQ s).isSome]) ∧ RowI w' w.heap.size v' ((spreadQ s).getD []) ∧ Below w.heap.size w w' := by
  have l1 := hv.len
  have hg := hf.good
  have hv0 := hv
  obtain ⟨A, c, rfl, hle, hcm, _⟩ := hv0
  unfold maxLen at hcm
  go_enter Tryz.func17, Tryz.ntmps17
  unfold setV
  go_upto_region 1 with (fail)
  have hL : Below w.heap.size w (w.alloc (.cells #[.int .i64 s.reload, (.slice A s.tasks.length c)] 24)) := (by repeat (first | exact Below.refl _ _ | assumption | refine Below.drew ?_ | refine Below.alloc ?_ (by first | (simp; done) | (simp; omega) | omega) _ | refine Below.setCell ?_ (by first | (simp; done) | (simp; omega) | omega) _)); have hB : Blk (w.alloc (.cells #[.int .i64 s.reload, (.slice A s.tasks.length c)] 24)) w.heap.size #[.int .i64 s.reload, (.slice A s.tasks.length c)] 24 := Blk.new _ _ _
  have hr := hv.ext ⟨hL⟩
  have hG0 := hG.below hL
  generalize w.alloc _ = W at hL hB hr hG0 ⊢
  have hc := hB.under
  have hA := tolerAll_any s (.slice A s.tasks.length c) W hr hf hG0
  have hsq : spreadQ s = (tolS s).map fun bs => qsL (workH s) bs s.tasks.length := rfl
  have hts := fun bs => tolS_some (s := s) (bs := bs)
  generalize tolS s = o at hA hsq hts
  have hc0 := hc W (Ext.refl W)
  cases o with
  | none =>
    have HSQ := Lib.hid hsq
    clear hsq hts
    go_wp2_with (fail)
    refine hA.mono ?_
    rintro e w1 ⟨v1, rfl, hO, hb1⟩
    clear hO
    go_wp2_with (fail)
    exact bodyPost_ret (v := .tuple #[.slice none 0 0, .bool false]) (by simp [results, Tryz.results17, go_sem, *]) rfl ⟨_, by rw [HSQ.out]; rfl, by rw [HSQ.out]; exact OwnL.nil, hL.trans (((Ext.refl W).call hb1).below.mono hL.size)⟩
  | some bs =>
    obtain ⟨hal, _, hbl⟩ := hts bs rfl
    have hs := fine_of hal hf
    have hlen := hs.len
    have hsq2 : spreadQ s = some (qsL (workH s) bs s.tasks.length) := hsq
    have HSQ := Lib.hid hsq2
    clear hsq hsq2 hts
    have hA : Calls Tryz.prog 31 #[setV s (.slice A s.tasks.length c)] W fun e w' => ∃ v', e = .returned (.tuple #[v', .bool true]) ∧ RowI w' W.heap.size v' bs ∧ Below W.heap.size W w' := hA
    obtain ⟨b0, o0, r0, rfl, ht⟩ := hr.at (show 0 < s.tasks.length by omega)
    have hwh := workH_eq (show 0 < s.tasks.length by omega)
    have HW := Lib.hid fun W' (h : Ext W W') => work_any s.tasks[0] r0 W' (ht.1.ext h)
    rw [← hwh] at HW
    have hrow := ht.row
    have hq0 : qsL (workH s) bs 1 = [workH s] := rfl
    generalize workH s = w0 at HSQ HW hq0
    generalize s.tasks[0] = t at ht HW hrow
    obtain ⟨A2, c2, rfl⟩ := hrow
    obtain ⟨x0, x1, x2, x3, x4, x5, x6, x7, x8⟩ := ht.under
    unfold tskV at HW
    clear hwh hal
    go_wp2_with (fail)
    refine hA.mono ?_
    rintro e w1 ⟨v1, rfl, hO, hb1⟩
    have hX1 : Ext W w1 := ⟨hb1⟩
    obtain ⟨A1, c1, rfl, hc1l, hc1m⟩ := OwnL.form hO
    have hI1 : Ints w1 (.slice A1 s.tasks.length c1) bs := by rw [← hbl]; exact hO.ints
    have hcm1 : s.tasks.length ≤ c1 := by omega
    clear hc0 hO
    have hc1 := hc w1 hX1
    have y0 := x0 w1 hX1
    have y1 := x1 w1 hX1
    have y2 := x2 w1 hX1
    have y3 := x3 w1 hX1
    have y4 := x4 w1 hX1
    have y5 := x5 w1 hX1
    have y6 := x6 w1 hX1
    have y7 := x7 w1 hX1
    have y8 := x8 w1 hX1
    simp only [Nat.zero_mul, Nat.add_zero] at y0 y1 y2 y3 y4 y5 y6 y7 y8
    clear x0 x1 x2 x3 x4 x5 x6 x7 x8
    go_wp2_with (fail)
    refine (HW.out w1 hX1).mono ?_
    rintro e w2 ⟨rfl, hb2⟩
    have hX2 := hX1.call hb2
    have hI2 := hI1.ext ⟨hb2⟩
    clear hc1 y0 y1 y2 y3 y4 y5 y6 y7 y8
    have hHBL := Lib.hid hbl
    clear hbl
    go_upto_region 5 with (fail)
    have hX3 : Ext w1 (w2.alloc (.cells #[.int .i64 w0] 2)) := (Ext.mk hb2).alloc (.cells #[.int .i64 w0] 2)
    have hO3 : RowI (w2.alloc (.cells #[.int .i64 w0] 2)) w1.heap.size (.slice (some ⟨w2.heap.size, 0, none⟩) 1 1) [w0] := row_one w2 w0 (Ext.mk hb2).size
    rw [← hq0] at hO3
    generalize w2.heap.size = g3 at hO3 ⊢
    generalize w2.alloc _ = w3 at hX3 hO3 ⊢
    go_wp2_with (fail)
    go_loopw [6, 7] (fun l i wr => ∃ q : Nat, 1 ≤ q ∧ q ≤ s.tasks.length ∧ i = .int .i64 q ∧ RowI wr w1.heap.size l (qsL w0 bs q) ∧ Ext w1 wr) (fun _ i _ => s.tasks.length - (intOf i).toNat)
    case atStart => exact ⟨1, Nat.le_refl _, hlen.1, rfl, hO3, hX3⟩
    case round =>
      obtain ⟨q, hq1, hq, rfl, hO, hX⟩ := hrel
      have hI := hI1.ext hX
      by_cases hlt : q < s.tasks.length
      · have hst : qsL w0 bs (q + 1) = qsL w0 bs q ++ [minAt bs (q - 1)] := by
          rw [qsL_succ]
          obtain ⟨p, rfl⟩ : ∃ p, q = p + 1 := ⟨q - 1, by omega⟩
          rfl
        have hIt : Ints wr (.slice A1 q c1) (bs.take q) := by
          obtain ⟨A9, c9, e9, k1, k2, k3⟩ := hI
          obtain ⟨rfl, e10, rfl⟩ := Value.slice.inj e9
          have hlq : (bs.take q).length = q := by rw [List.length_take, hHBL.out]; omega
          refine ⟨A1, c1, by rw [hlq], by rw [hlq]; omega, k2, fun hne => ?_⟩
          obtain ⟨b9, o9, e11, k4⟩ := k3 (fun e => by rw [e] at hne; simp at hne)
          refine ⟨b9, o9, e11, fun i hi => ?_⟩
          rw [List.getElem_take]
          exact k4 i (by rw [hlq] at hi; rw [hHBL.out]; omega)
        have hM := slMin_any (bs.take q) _ wr hIt (by rw [List.length_take, hHBL.out]; omega)
        rw [show (bs.take q).length = q by rw [List.length_take, hHBL.out]; omega, minAt_take bs q (q - 1) (by omega)] at hM
        have hll := qsL_len w0 bs q
        generalize minAt bs (q - 1) = m at hM hst
        have HST := Lib.hid hst
        clear hst
        generalize qsL w0 bs q = ls at hO hll HST
        have HLL := Lib.hid hll
        clear hll
        obtain ⟨Av, cv, rfl, _, _⟩ := OwnL.form hO
        clear hq0
        go_wp2_with (first | (go_at_call 33; refine hM.mono ?_; rintro e w4 ⟨rfl, rfl⟩) | (at_builtin; (refine wpList_push rfl _ _ 26 rfl w1.heap.size 2 Tryz.underlying26 infoI64 rfl (by decide) (by decide) encI ls _ rfl (hO.alloc _) m wr.heap.size #[.int .i64 m] 2 rfl (Blk.new _ _ _) rfl rfl (by simp [encI, Value.oneCell']) ?_ ?_ ?_; (· have := HLL.out; omega); (· have := hX.size; simp; omega); (intro v2 w8 hown hg hloc _))))
        have hX8 : Ext w1 w8 := (hX.alloc (.cells #[.int .i64 m] 2)).grown hg (fun j hj => (OwnL.lt hO j hj).1)
        exact ⟨⟨q + 1, by omega, hlt, rfl, by rw [HST.out]; exact hown, hX8⟩, by simp [intOf]; omega⟩
      · have hqe : q = s.tasks.length := Nat.le_antisymm hq (Nat.not_lt.1 hlt)
        subst hqe
        obtain ⟨Av, cv, rfl, _, _⟩ := OwnL.form hO
        go_wp2_with (fail)
        exact bodyPost_ret (v := .tuple #[.slice Av (qsL w0 bs s.tasks.length).length cv, .bool true]) (by simp [results, Tryz.results17, go_sem, *]) rfl ⟨_, by rw [HSQ.out]; rfl, by rw [HSQ.out]; exact OwnL.lower hO (Nat.le_trans hL.size hX1.size), hL.trans ((hX1.trans hX).below.mono hL.size)⟩
end Go.Proofs.YtknfdjnbndfboaaGreatDoor
