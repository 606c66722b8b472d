/- ref14: Of, All. -/
import Derived.Test.YtknfdjnbndfboabGreatDoorProg
import Derived.Test.YtknfdjnbndfboabGreatDoorBase
import Derived.Test.YtknfdjnbndfboabGreatDoorHeldX
import Derived.Test.YtknfdjnbndfboabGreatDoorApp
import Derived.Test.YtknfdjnbndfboabGreatDoorTsk1
import Derived.Test.YtknfdjnbndfboabGreatDoorTsk3
import Derived.Test.YtknfdjnbndfboabGreatDoorTskZ
import Derived.Test.YtknfdjnbndfboabGreatDoorTskP
import Derived.Test.YtknfdjnbndfboabGreatDoorTskA
import Derived.Test.YtknfdjnbndfboabGreatDoorTskO
import Derived.Test.YtknfdjnbndfboabGreatDoorSetO
import Derived.Test.YtknfdjnbndfboabGreatDoorRespS
import Derived.Test.YtknfdjnbndfboabGreatDoorResp
import Derived.Test.YtknfdjnbndfboabGreatDoorTolA
import Derived.Test.YtknfdjnbndfboabGreatDoorTolP
import Derived.Deep.Cut
import Derived.Lib.Hide
namespace Go.Proofs.YtknfdjnbndfboabGreatDoor
open Go.RowKit
attribute [local go_sem] setCell_twice ByteArray.toList_eq str_list Ext.alloc Ext.drew
set_option linter.unusedSimpArgs false
set_option maxRecDepth 100000
set_option maxHeartbeats 6400000
attribute [local irreducible] popN

theorem tolO_val (s : TSet) (i k : Nat) (h : tolN s i = k) : optN (tolO s i) = .tuple #[.int .i64 (max ((k : Int) - 1) 0), .bool (decide (0 < (k : Int)))] := by
  unfold tolO
  rw [h]
  by_cases hk : k = 0
  · subst hk; rfl
  · rw [if_neg hk, show max ((k : Int) - 1) 0 = (k : Int) - 1 by omega, decide_eq_true (show 0 < (k : Int) by omega)]
    rfl
theorem ref14Of_any (s : TSet) (v : Value) (i : Nat) (w : World) (hv : Tasks w v s.tasks) (hs : Fine s) (hi : i < s.tasks.length) :
    Calls Tryz.prog 31 #[setV s v, .int .i64 i] w fun e w' => e = .returned (optN (tolO s i)) ∧ Below w.heap.size w w' := by
  have l1 := hv.len
  have hlen := hs.len
  have hv0 := hv
  obtain ⟨A, c, rfl, hle, hcm, _⟩ := hv0
  unfold maxLen at hcm
  have HTI := Lib.hid fun (k : Nat) (h1 : k ≤ (s.tasks[i].D + 1).toNat) (h2 : ∀ x < k, accS s i x = true) (h3 : k < (s.tasks[i].D + 1).toNat → accS s i k = false) => tolO_val s i k (tolN_is hi h1 h2 h3)
  go_enter Tryz.func31, Tryz.ntmps31
  unfold setV
  go_upto_region 1 with (fail)
  have hL : Below w.heap.size w (w.alloc (.cells #[.int .i64 s.reload, (.slice A s.tasks.length c)] 24)) := (by repeat (first | exact Below.refl _ _ | assumption | refine Below.drew ?_ | refine Below.alloc ?_ (by first | (simp; done) | (simp; omega) | omega) _ | refine Below.setCell ?_ (by first | (simp; done) | (simp; omega) | omega) _)); have hB : Blk (w.alloc (.cells #[.int .i64 s.reload, (.slice A s.tasks.length c)] 24)) w.heap.size #[.int .i64 s.reload, (.slice A s.tasks.length c)] 24 := Blk.new _ _ _
  have hr := hv.ext ⟨hL⟩
  generalize w.alloc _ = W at hL hB hr ⊢
  have hc := hB.under
  obtain ⟨b, o, r, rfl, hx⟩ := hr.at hi
  have htm := (hs.at i hi).time
  have hwk := (hs.at i hi).work
  generalize s.tasks[i] = t at hx HTI htm hwk
  obtain ⟨x0, x1, x2, x3, x4, x5, x6, x7, x8⟩ := hx.under
  clear x0 x1 x3 x4 x5 x6 x7 x8
  go_wp2_with (fail)
  go_loopw [6] (fun q wr => ∃ k : Nat, q = .int .i64 k ∧ k ≤ (t.D + 1).toNat ∧ Hid (∀ x < k, accS s i x = true) ∧ Ext W wr) (fun q _ => (t.D + 1).toNat - (intOf q).toNat)
  case atStart => exact ⟨0, rfl, Nat.zero_le _, Lib.hid (fun x hx => by omega), Ext.refl W⟩
  case round =>
    obtain ⟨k, rfl, hk, hac, hX⟩ := hrel
    have hcr := hc wr hX
    have hx2 := x2 wr hX
    by_cases hlt : (k : Int) ≤ t.D
    · have hR := refWith_any s (.slice (some ⟨b, o, none⟩) s.tasks.length c) i k wr (hr.ext hX) hs hi
      have hE : accS s i k = ((withS s i k).2 == 1) := rfl
      generalize withS s i k = p at hR hE
      obtain ⟨p1, p2⟩ := p
      unfold pairZ at hR
      dsimp only at hR hE
      by_cases hp : p2 = 1
      · subst hp
        have hst : ∀ x < k + 1, accS s i x = true := fun x hx => by
          by_cases hxk : x = k
          · subst hxk; rw [hE]; rfl
          · exact hac.out x (by omega)
        have HST := Lib.hid hst
        clear hst hE
        go_wp2_with (fail)
        refine hR.mono ?_
        rintro e w2 ⟨rfl, hb2⟩
        go_wp2_with (fail)
        exact ⟨⟨k + 1, rfl, by omega, HST, hX.call hb2⟩, by simp [intOf]; omega⟩
      · have hq : (p2 == 1) = false := by simpa using hp
        rw [hq] at hE
        have HF := Lib.hid (HTI.out k hk hac.out (fun _ => hE))
        clear hE hq
        go_wp2_with (fail)
        refine hR.mono ?_
        rintro e w2 ⟨rfl, hb2⟩
        go_wp2_with (fail)
        exact bodyPost_ret (v := .tuple #[.int .i64 (max ((k : Int) - 1) 0), .bool (decide (0 < (k : Int)))]) (by simp [results, Tryz.results31, go_sem, *]) rfl ⟨by rw [HF.out], hL.trans ((hX.call hb2).below.mono hL.size)⟩
    · have HF := Lib.hid (HTI.out k hk hac.out (fun h => by omega))
      go_wp2_with (fail)
      exact bodyPost_ret (v := .tuple #[.int .i64 (max ((k : Int) - 1) 0), .bool (decide (0 < (k : Int)))]) (by simp [results, Tryz.results31, go_sem, *]) rfl ⟨by rw [HF.out], hL.trans (hX.below.mono hL.size)⟩
theorem ref14All_any (s : TSet) (v : Value) (w : World) (hv : Tasks w v s.tasks) (hs : Fine s) :
    Calls Tryz.prog 20 #[setV s v] w fun e w' => ∃ v', e = .returned (.tuple #[v', .bool (tolL s s.tasks.length).isSome]) ∧ RowI w' w.heap.size v' ((tolL s s.tasks.length).getD []) ∧ Below w.heap.size w w' := by
  have l1 := hv.len
  have hlen := hs.len
  have hv0 := hv
  obtain ⟨A, c, rfl, hle, hcm, _⟩ := hv0
  unfold maxLen at hcm
  go_enter Tryz.func20, Tryz.ntmps20
  unfold setV
  go_upto_region 1 with (fail)
  have hL : Below w.heap.size w (w.alloc (.cells #[.int .i64 s.reload, (.slice A s.tasks.length c)] 24)) := (by repeat (first | exact Below.refl _ _ | assumption | refine Below.drew ?_ | refine Below.alloc ?_ (by first | (simp; done) | (simp; omega) | omega) _ | refine Below.setCell ?_ (by first | (simp; done) | (simp; omega) | omega) _)); have hB : Blk (w.alloc (.cells #[.int .i64 s.reload, (.slice A s.tasks.length c)] 24)) w.heap.size #[.int .i64 s.reload, (.slice A s.tasks.length c)] 24 := Blk.new _ _ _
  have hr := hv.ext ⟨hL⟩
  generalize w.alloc _ = W at hL hB hr ⊢
  go_wp2_with (fail)
  go_loopw [4, 5] (fun l k wr => ∃ (q : Nat) (ls : List Int), q ≤ s.tasks.length ∧ k = .int .i64 q ∧ Hid (tolL s q = some ls) ∧ RowI wr W.heap.size l ls ∧ Ext W wr) (fun _ k _ => s.tasks.length - (intOf k).toNat)
  case atStart => exact ⟨0, [], Nat.zero_le _, rfl, Lib.hid rfl, OwnL.nil, Ext.refl W⟩
  case round =>
    obtain ⟨q, ls, hq, rfl, HL, hO, hX⟩ := hrel
    have hcr := (hB.ext hX).cell
    have hll : ls.length = q := tolL_len s q ls HL.out
    by_cases hlt : q < s.tasks.length
    · have hT := ref14Of_any s (.slice A s.tasks.length c) q wr (hr.ext hX) hs hlt
      have H1 := Lib.hid fun (h : tolO s q = none) => tolL_stop s hlt h
      have H2 := Lib.hid fun (b : Int) (h : tolO s q = some b) => tolL_step s HL.out h
      have HLL := Lib.hid hll
      clear hll
      cases ht : tolO s q with
      | none =>
        have H3 := Lib.hid (H1.out ht)
        rw [ht] at hT
        unfold optN at hT
        clear ht
        go_wp2_with (fail)
        refine hT.mono ?_
        rintro e w2 ⟨rfl, hb2⟩
        have hX2 := hX.call hb2
        go_wp2_with (fail)
        exact bodyPost_ret (v := .tuple #[.slice none 0 0, .bool false]) (by simp [results, Tryz.results20, go_sem, *]) rfl ⟨_, by rw [H3.out]; rfl, by rw [H3.out]; exact OwnL.nil, hL.trans (hX2.below.mono hL.size)⟩
      | some b =>
        have H3 := Lib.hid (H2.out b ht)
        rw [ht] at hT
        unfold optN at hT
        dsimp only at hT
        clear ht
        have hO := hO
        obtain ⟨Av, cv, rfl, _, _⟩ := OwnL.form hO
        go_wp2_with (fail)
        refine hT.mono ?_
        rintro e w2 ⟨rfl, hb2⟩
        have hX2 := hX.call hb2
        have hO2 := OwnL.below hO hb2
        go_wp2_with (at_builtin; (refine wpList_push rfl _ _ 34 rfl W.heap.size 2 Tryz.underlying34 infoI64 rfl (by decide) (by decide) encI ls _ rfl (hO2.alloc _) b w2.heap.size #[.int .i64 b] 2 rfl (Blk.new _ _ _) rfl rfl (by simp [encI, Value.oneCell']) ?_ ?_ ?_; (· have := HLL.out; omega); (· have := hX2.size; simp; omega); (intro v2 w8 hown hg hloc _)))
        have hX8 : Ext W w8 := (hX2.alloc (.cells #[.int .i64 b] 2)).grown hg (fun j hj => (OwnL.lt hO2 j hj).1)
        exact ⟨⟨q + 1, ls ++ [b], hlt, rfl, H3, hown, hX8⟩, by simp [intOf]; omega⟩
    · have hqe : q = s.tasks.length := Nat.le_antisymm hq (Nat.not_lt.1 hlt)
      have hts := HL.out
      rw [hqe] at hts
      have HT2 := Lib.hid hts
      clear hts
      obtain ⟨Av, cv, rfl, _, _⟩ := OwnL.form hO
      go_wp2_with (fail)
      exact bodyPost_ret (v := .tuple #[.slice Av ls.length cv, .bool true]) (by simp [results, Tryz.results20, go_sem, *]) rfl ⟨_, by rw [HT2.out]; rfl, by rw [HT2.out]; exact OwnL.lower hO hL.size, hL.trans (hX.below.mono hL.size)⟩
end Go.Proofs.YtknfdjnbndfboabGreatDoor
