/- toler.All. -/
import Derived.Test.YtknfdjnbndfboaaDoorProg
import Derived.Test.YtknfdjnbndfboaaDoorBase
import Derived.Test.YtknfdjnbndfboaaDoorBase2
import Derived.Test.YtknfdjnbndfboaaDoorHeld
import Derived.Test.YtknfdjnbndfboaaDoorHeldX
import Derived.Test.YtknfdjnbndfboaaDoorApp
import Derived.Test.YtknfdjnbndfboaaDoorAppX
import Derived.Test.YtknfdjnbndfboaaDoorTsk1
import Derived.Test.YtknfdjnbndfboaaDoorTsk3
import Derived.Test.YtknfdjnbndfboaaDoorTskZ
import Derived.Test.YtknfdjnbndfboaaDoorTskP
import Derived.Test.YtknfdjnbndfboaaDoorTskA
import Derived.Test.YtknfdjnbndfboaaDoorTskO
import Derived.Test.YtknfdjnbndfboaaDoorSetO
import Derived.Test.YtknfdjnbndfboaaDoorRespS
import Derived.Test.YtknfdjnbndfboaaDoorResp
import Derived.Test.YtknfdjnbndfboaaDoorTol
import Derived.Deep.Cut
import Derived.Lib.Hide
namespace Go.Proofs.YtknfdjnbndfboaaDoor
open Go.RowKit
attribute [local go_sem] setCell_twice ByteArray.toList_eq str_list Ext.alloc Ext.drew
set_option linter.unusedSimpArgs false
set_option maxRecDepth 100000
set_option maxHeartbeats 6400000
attribute [local irreducible] popN

/-- what the first n bear -/
def tolL (s : TSet) : Nat → Option (List Int)
  | 0 => some []
  | n + 1 => match tolL s n, tolO s n with
    | some l, some b => some (l ++ [b])
    | _, _ => none
theorem tolL_len (s : TSet) : ∀ (n : Nat) (l : List Int), tolL s n = some l → l.length = n
  | 0, l, h => by cases h; rfl
  | n + 1, l, h => by
    unfold tolL at h
    split at h
    · rename_i l0 b h1 h2
      cases h
      rw [List.length_append, tolL_len s n l0 h1]
      rfl
    · cases h
theorem tolL_none (s : TSet) (n : Nat) (h : tolL s n = none) : ∀ d, tolL s (n + d) = none
  | 0 => h
  | d + 1 => by
    show (match tolL s (n + d), tolO s (n + d) with | some l, some b => some (l ++ [b]) | _, _ => none) = none
    rw [tolL_none s n h d]
theorem tolL_stop (s : TSet) {n m : Nat} (hn : n < m) (h : tolO s n = none) : tolL s m = none := by
  have h1 : tolL s (n + 1) = none := by
    unfold tolL
    rw [h]
    cases tolL s n <;> rfl
  have := tolL_none s (n + 1) h1 (m - (n + 1))
  rwa [show n + 1 + (m - (n + 1)) = m by omega] at this
theorem tolL_step (s : TSet) {n : Nat} {l : List Int} {b : Int} (h1 : tolL s n = some l) (h2 : tolO s n = some b) : tolL s (n + 1) = some (l ++ [b]) := by
  unfold tolL
  rw [h1, h2]
def tolS (s : TSet) : Option (List Int) := if allB s = true then tolL s s.tasks.length else none
def tolI (s : TSet) (i : Int) : Option Int := if (0 ≤ i ∧ i < s.tasks.length) ∧ allB s = true then tolO s i.toNat else none
theorem tolerAll_any (s : TSet) (v : Value) (w : World) (hv : Tasks w v s.tasks) (hf : s.fit) (hG : GOK w) :
    Calls Tryd.prog 16 #[setV s v] w fun e w' => ∃ v', e = .returned (.tuple #[v', .bool (tolS s).isSome]) ∧ RowI w' w.heap.size v' ((tolS s).getD []) ∧ Below w.heap.size w w' := by
  have l1 := hv.len
  have hg := hf.good
  have hv0 := hv
  obtain ⟨A, c, rfl, hle, hcm, _⟩ := hv0
  unfold maxLen at hcm
  go_enter Tryd.func16, Tryd.ntmps16
  unfold setV
  go_upto_region 1 with (fail)
  have hL : Below w.heap.size w (w.alloc (.cells #[.int .i64 s.reload, (.slice A s.tasks.length c)] 24)) := (by repeat (first | exact Below.refl _ _ | assumption | refine Below.drew ?_ | refine Below.alloc ?_ (by first | (simp; done) | (simp; omega) | omega) _ | refine Below.setCell ?_ (by first | (simp; done) | (simp; omega) | omega) _)); have hB : Blk (w.alloc (.cells #[.int .i64 s.reload, (.slice A s.tasks.length c)] 24)) w.heap.size #[.int .i64 s.reload, (.slice A s.tasks.length c)] 24 := Blk.new _ _ _
  have hr := hv.ext ⟨hL⟩
  have hG0 := hG.below hL
  generalize w.alloc _ = W at hL hB hr hG0 ⊢
  have hc := hB.cell
  go_wp2_with (fail)
  refine (all_any s _ _ hr hg hG0).mono ?_
  rintro e w1 ⟨rfl, hb1⟩
  have hX1 : Ext W w1 := ⟨hb1⟩
  cases hal : allB s with
  | false =>
    have hts : tolS s = none := by unfold tolS; rw [hal]; rfl
    have HTS := Lib.hid hts
    clear hts
    go_wp2_with (fail)
    exact bodyPost_ret (v := .tuple #[.slice none 0 0, .bool false]) (by simp [results, Tryd.results16, go_sem, *]) rfl ⟨_, by rw [HTS.out]; rfl, by rw [HTS.out]; exact OwnL.nil, hL.trans (hX1.below.mono hL.size)⟩
  | true =>
    have hs := fine_of hal hf
    have hlen := hs.len
    have hts : tolS s = tolL s s.tasks.length := by unfold tolS; rw [hal]; rfl
    have HTS := Lib.hid hts
    clear hts hal hc
    have hc1 := (hB.ext hX1).cell
    go_wp2_with (fail)
    clear hc1
    go_loopw [4, 14] (fun l k wr => ∃ (q : Nat) (ls : List Int), q ≤ s.tasks.length ∧ k = .int .i64 q ∧ Hid (tolL s q = some ls) ∧ RowI wr W.heap.size l ls ∧ Ext W wr) (fun _ k _ => s.tasks.length - (intOf k).toNat)
    case atStart => exact ⟨0, [], Nat.zero_le _, rfl, Lib.hid rfl, OwnL.nil, hX1⟩
    case round =>
      obtain ⟨q, ls, hq, rfl, HL, hO, hX⟩ := hrel
      have hcr := (hB.ext hX).cell
      have hll : ls.length = q := tolL_len s q ls HL.out
      by_cases hlt : q < s.tasks.length
      · have hT := tolOf_any s (.slice A s.tasks.length c) q wr (hr.ext hX) hs hlt
        have H1 := Lib.hid fun (h : tolO s q = none) => tolL_stop s hlt h
        have H2 := Lib.hid fun (b : Int) (h : tolO s q = some b) => tolL_step s HL.out h
        have HLL := Lib.hid hll
        clear hll
        cases ht : tolO s q with
        | none =>
          have H3 := Lib.hid (H1.out ht)
          rw [ht] at hT
          unfold optN at hT
          clear ht
          go_wp2_with (fail)
          refine hT.mono ?_
          rintro e w2 ⟨rfl, hb2⟩
          have hX2 := hX.call hb2
          go_wp2_with (fail)
          exact bodyPost_ret (v := .tuple #[.slice none 0 0, .bool false]) (by simp [results, Tryd.results16, go_sem, *]) rfl ⟨_, by rw [HTS.out, H3.out]; rfl, by rw [HTS.out, H3.out]; exact OwnL.nil, hL.trans (hX2.below.mono hL.size)⟩
        | some b =>
          have H3 := Lib.hid (H2.out b ht)
          rw [ht] at hT
          unfold optN at hT
          dsimp only at hT
          clear ht
          have hO := hO
          obtain ⟨Av, cv, rfl, _, _⟩ := OwnL.form hO
          go_wp2_with (fail)
          refine hT.mono ?_
          rintro e w2 ⟨rfl, hb2⟩
          have hX2 := hX.call hb2
          have hO2 := OwnL.below hO hb2
          go_wp2_with (at_builtin; (refine wpList_push rfl _ _ 31 rfl W.heap.size 2 Tryd.underlying31 infoI64 rfl (by decide) (by decide) encI ls _ rfl (hO2.alloc _) b w2.heap.size #[.int .i64 b] 2 rfl (Blk.new _ _ _) rfl rfl (by simp [encI, Value.oneCell']) ?_ ?_ ?_; (· have := HLL.out; omega); (· have := hX2.size; simp; omega); (intro v2 w8 hown hg hloc _)))
          have hX8 : Ext W w8 := (hX2.alloc (.cells #[.int .i64 b] 2)).grown hg (fun j hj => (OwnL.lt hO2 j hj).1)
          exact ⟨⟨q + 1, ls ++ [b], hlt, rfl, H3, hown, hX8⟩, by simp [intOf]; omega⟩
      · have hqe : q = s.tasks.length := Nat.le_antisymm hq (Nat.not_lt.1 hlt)
        have hts := HTS.out
        rw [← hqe, HL.out] at hts
        have HT2 := Lib.hid hts
        clear hts
        obtain ⟨Av, cv, rfl, _, _⟩ := OwnL.form hO
        go_wp2_with (fail)
        exact bodyPost_ret (v := .tuple #[.slice Av ls.length cv, .bool true]) (by simp [results, Tryd.results16, go_sem, *]) rfl ⟨_, by rw [HT2.out]; rfl, by rw [HT2.out]; exact OwnL.lower hO hL.size, hL.trans (hX.below.mono hL.size)⟩
end Go.Proofs.YtknfdjnbndfboaaDoor
