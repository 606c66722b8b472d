/- toler: of, Of, All; ref14: Of, All; sort.Search. -/
import Derived.Test.YtknfdjnbndfboabGreatDoorProg
import Derived.Test.YtknfdjnbndfboabGreatDoorBase
import Derived.Test.YtknfdjnbndfboabGreatDoorHeldX
import Derived.Test.YtknfdjnbndfboabGreatDoorApp
import Derived.Test.YtknfdjnbndfboabGreatDoorTsk1
import Derived.Test.YtknfdjnbndfboabGreatDoorTsk3
import Derived.Test.YtknfdjnbndfboabGreatDoorTskZ
import Derived.Test.YtknfdjnbndfboabGreatDoorTskP
import Derived.Test.YtknfdjnbndfboabGreatDoorTskA
import Derived.Test.YtknfdjnbndfboabGreatDoorTskO
import Derived.Test.YtknfdjnbndfboabGreatDoorSetO
import Derived.Test.YtknfdjnbndfboabGreatDoorRespS
import Derived.Test.YtknfdjnbndfboabGreatDoorResp
import Derived.Deep.Cut
import Derived.Lib.Hide
namespace Go.Proofs.YtknfdjnbndfboabGreatDoor
open Go.RowKit
attribute [local go_sem] setCell_twice ByteArray.toList_eq str_list Ext.alloc Ext.drew
set_option linter.unusedSimpArgs false
set_option maxRecDepth 100000
set_option maxHeartbeats 6400000
attribute [local irreducible] popN

/-- the first of n that is odd -/
def oddN (p : Nat → Bool) : Nat → Nat
  | 0 => 0
  | n + 1 => if oddN p n < n then oddN p n else if p n then n + 1 else n
theorem oddN_spec (p : Nat → Bool) : ∀ n, oddN p n ≤ n ∧ (∀ x < oddN p n, p x = true) ∧ (oddN p n < n → p (oddN p n) = false)
  | 0 => ⟨Nat.le_refl _, fun x hx => by simp [oddN] at hx, fun h => by simp [oddN] at h⟩
  | n + 1 => by
    obtain ⟨h1, h2, h3⟩ := oddN_spec p n
    unfold oddN
    by_cases h : oddN p n < n
    · rw [if_pos h]
      exact ⟨by omega, h2, fun _ => h3 h⟩
    · have he : oddN p n = n := by omega
      rw [if_neg h]
      rw [he] at h2
      cases hp : p n with
      | true =>
        simp only [if_true]
        refine ⟨Nat.le_refl _, fun x hx => ?_, fun h => by omega⟩
        by_cases hxn : x = n
        · subst hxn; exact hp
        · exact h2 x (by omega)
      | false =>
        simp only [Bool.false_eq_true, if_false]
        exact ⟨by omega, h2, fun _ => hp⟩
theorem oddN_is {p : Nat → Bool} {n i : Nat} (h1 : i ≤ n) (h2 : ∀ x < i, p x = true) (h3 : i < n → p i = false) : oddN p n = i := by
  obtain ⟨a, b, c⟩ := oddN_spec p n
  rcases Nat.lt_trichotomy (oddN p n) i with h | h | h
  · have := h2 _ h
    rw [c (by omega)] at this
    cases this
  · exact h
  · have := b _ h
    rw [h3 (by omega)] at this
    cases this
theorem search_any (n : Nat) (g : Nat) (caps : Array Value) (p : Nat → Bool) (W : World) (hn : n ≤ 1000000) (eg : ∀ args w, (callFunc g args).run Tryz.prog w = .ok (.enter g args) w) (hp : ∀ h : Nat, h < n → ∀ W', Ext W W' → Calls Tryz.prog g (#[.int .i64 h] ++ caps) W' fun e w' => e = .returned (.bool (!p h)) ∧ Below W'.heap.size W' w')
    (hm : ∀ a b, a ≤ b → b < n → p b = true → p a = true) :
    Calls Tryz.prog 40 #[.int .i64 n, .func (.func g) #[] caps] W fun e w' => e = .returned (.int .i64 (oddN p n)) ∧ Below W.heap.size W w' := by
  have HP := Lib.hid hp
  have HM := Lib.hid hm
  clear hp hm
  go_enter Tryz.func40, Tryz.ntmps40
  go_wp2_with (fail)
  go_loopw [5, 6] (fun i j wr => ∃ a b : Nat, i = .int .i64 a ∧ j = .int .i64 b ∧ a ≤ b ∧ b ≤ n ∧ Hid (∀ x < a, p x = true) ∧ Hid (b < n → p b = false) ∧ Ext W wr) (fun i j _ => (intOf j - intOf i).toNat)
  case atStart => exact ⟨0, n, rfl, rfl, Nat.zero_le _, Nat.le_refl _, Lib.hid (fun x hx => by omega), Lib.hid (fun h => by omega), Ext.refl W⟩
  case round =>
    obtain ⟨a, b, rfl, rfl, hab, hbn, ha, hb, hX⟩ := hrel
    by_cases hlt : a < b
    · obtain ⟨h, hh⟩ : ∃ h : Nat, h = (a + b) / 2 := ⟨_, rfl⟩
      have hhi : ((a : Int) + (b : Int)) / 2 = (h : Int) := by omega
      have hah : a ≤ h := by omega
      have hhb : h < b := by omega
      have hC := HP.out h (by omega) wr hX
      have h1 : p h = true → ∀ x < h + 1, p x = true := fun hph x hx => HM.out x h (by omega) (by omega) hph
      have H1 := Lib.hid h1
      clear hh h1
      go_wp2_with (fail)
      refine hC.mono ?_
      rintro e w2 ⟨rfl, hb2⟩
      cases hph : p h with
      | true =>
        have ha2 := Lib.hid (H1.out hph)
        go_wp2_with (fail)
        exact ⟨⟨h + 1, b, by simp, rfl, by omega, hbn, ha2, hb, hX.call hb2⟩, by simp [intOf]; omega⟩
      | false =>
        have hb3 : Hid (h < n → p h = false) := Lib.hid fun _ => hph
        go_wp2_with (fail)
        exact ⟨⟨a, h, rfl, by simp, hah, by omega, ha, hb3, hX.call hb2⟩, by simp [intOf]; omega⟩
    · have hE : oddN p n = a := by
        have hae : a = b := Nat.le_antisymm hab (Nat.not_lt.1 hlt)
        subst hae
        exact oddN_is hbn ha.out hb.out
      have HE := Lib.hid hE
      clear hE
      go_wp2_with (fail)
      go_ret
      exact ⟨by rw [HE.out]; rfl, hX.below⟩
/-- accepted with so much blocking -/
def accS (s : TSet) (i : Nat) (b : Int) : Bool := (withS s i b).2 == 1
theorem accS_iff {s : TSet} (hs : Fine s) {i : Nat} (hi : i < s.tasks.length) (b : Int) : accS s i b = true ↔ accP s.tasks[i].T (workL s.tasks[i].regs) s.tasks[i].D b (loadsS s i) := by
  have h := hs.at i hi
  have h1 := h.work
  have h2 := h.time
  unfold accS
  rw [beq_iff_eq, withS_in s hi]
  exact acc_iff (loads_ok hs (by omega)) (by omega) (by omega) (by omega)
theorem accS_mono {s : TSet} (hs : Fine s) {i : Nat} (hi : i < s.tasks.length) {a b : Int} (h0 : 0 ≤ a) (hab : a ≤ b) (h : accS s i b = true) : accS s i a = true := by
  have h3 := hs.at i hi
  have h1 := h3.work
  have h2 := h3.time
  have hl := loads_ok hs (i := i) (by omega)
  exact (accS_iff hs hi a).2 (acc_mono hl (LdLe.refl (fun p hp => (hl.each p hp).2.1)) (by omega) (by omega) (by omega) ⟨h0, hab⟩ ((accS_iff hs hi b).1 h))
/-- with more than its deadline no task is accepted -/
theorem accS_top {s : TSet} (hs : Fine s) {i : Nat} (hi : i < s.tasks.length) {b : Int} (hb : s.tasks[i].D < b) : accS s i b = false := by
  cases h : accS s i b with
  | false => rfl
  | true =>
    exfalso
    have h3 := hs.at i hi
    have h1 := h3.work
    have h2 := h3.time
    obtain ⟨long, h4, h5⟩ := (accS_iff hs hi b).1 h
    have hl := loads_ok hs (i := i) (by omega)
    obtain ⟨_, _, h6, _, _⟩ := busy_job hl (by omega) (by omega) h4
    obtain ⟨_, _, a3, _, _⟩ := job_least hl (by omega) (by omega) h4 0 (by simp; omega)
    have := h5 0 (by simp; omega)
    simp at this a3
    omega
/-- how many blockings, from 0 on, task i bears -/
def tolN (s : TSet) (i : Nat) : Nat := if h : i < s.tasks.length then oddN (fun b => accS s i b) (s.tasks[i].D + 1).toNat else 0
def tolO (s : TSet) (i : Nat) : Option Int := if tolN s i = 0 then none else some ((tolN s i : Int) - 1)
theorem tolC_any (s : TSet) (v : Value) (i bl g g2 : Nat) (w : World) (hB : Blk w g #[.int .i64 s.reload, v] 24) (hB2 : Blk w g2 #[.int .i64 i] 3) (hv : Tasks w v s.tasks) (hs : Fine s) (hi : i < s.tasks.length) :
    Calls Tryz.prog 41 #[.int .i64 bl, .pointer (some ⟨g, 0, none⟩), .pointer (some ⟨g2, 0, none⟩)] w fun e w' => e = .returned (.bool (!accS s i bl)) ∧ Below w.heap.size w w' := by
  have hR := respWith_any s v i bl w hv hs hi
  have hc := hB.cell
  have hc2 := hB2.cell
  have hE : accS s i bl = ((withS s i bl).2 == 1) := rfl
  generalize withS s i bl = p at hR hE
  obtain ⟨p1, p2⟩ := p
  unfold pairZ at hR
  dsimp only at hR hE
  have HE := Lib.hid hE
  clear hE
  obtain ⟨A, c, rfl, _, _, _⟩ := hv
  go_enter Tryz.func41, Tryz.ntmps41
  go_wp2_with (fail)
  refine hR.mono ?_
  rintro e w1 ⟨rfl, hb⟩
  go_wp2_with (fail)
  go_ret
  exact ⟨by rw [HE.out]; rfl, hb⟩
theorem tolOf_any (s : TSet) (v : Value) (i : Nat) (w : World) (hv : Tasks w v s.tasks) (hs : Fine s) (hi : i < s.tasks.length) :
    Calls Tryz.prog 28 #[setV s v, .int .i64 i] w fun e w' => e = .returned (optN (tolO s i)) ∧ Below w.heap.size w w' := by
  have l1 := hv.len
  have hlen := hs.len
  have hv0 := hv
  obtain ⟨A, c, rfl, hle, hcm, _⟩ := hv0
  unfold maxLen at hcm
  go_enter Tryz.func28, Tryz.ntmps28
  unfold setV
  go_upto_region 1 with (fail)
  have hL : Below w.heap.size w ((w.alloc (.cells #[.int .i64 s.reload, (.slice A s.tasks.length c)] 24)).alloc (.cells #[.int .i64 i] 3)) := (by repeat (first | exact Below.refl _ _ | assumption | refine Below.drew ?_ | refine Below.alloc ?_ (by first | (simp; done) | (simp; omega) | omega) _ | refine Below.setCell ?_ (by first | (simp; done) | (simp; omega) | omega) _)); have hB : Blk ((w.alloc (.cells #[.int .i64 s.reload, (.slice A s.tasks.length c)] 24)).alloc (.cells #[.int .i64 i] 3)) w.heap.size #[.int .i64 s.reload, (.slice A s.tasks.length c)] 24 := (Blk.new _ _ _).alloc _; have hB2 : Blk ((w.alloc (.cells #[.int .i64 s.reload, (.slice A s.tasks.length c)] 24)).alloc (.cells #[.int .i64 i] 3)) (w.heap.size + 1) #[.int .i64 i] 3 := Blk.new_at _ _ _ _ (by simp)
  have hr := hv.ext ⟨hL⟩
  generalize (w.alloc _).alloc _ = W at hL hB hB2 hr ⊢
  obtain ⟨b, o, r, rfl, hx⟩ := hr.at hi
  have hft := hs.at i hi
  have htm := hft.time
  have hwk := hft.work
  have hk : tolN s i = oddN (fun b => accS s i b) (s.tasks[i].D + 1).toNat := by unfold tolN; rw [dif_pos hi]
  have hS := search_any (s.tasks[i].D + 1).toNat 41 #[.pointer (some ⟨w.heap.size, 0, none⟩), .pointer (some ⟨w.heap.size + 1, 0, none⟩)] (fun b => accS s i b) W (by omega) (fun _ _ => by kernel_rfl)
    (fun h hh W' hW' => tolC_any s (.slice (some ⟨b, o, none⟩) s.tasks.length c) i h _ _ W' (hB.ext hW') (hB2.ext hW') (hr.ext hW') hs hi) (fun a b hab _ h => accS_mono hs hi (by omega) (by omega) h)
  rw [← hk] at hS
  rw [show (((s.tasks[i].D + 1).toNat : Nat) : Int) = s.tasks[i].D + 1 by omega] at hS
  have hto : tolO s i = if tolN s i = 0 then none else some ((tolN s i : Int) - 1) := rfl
  have hkd := hk
  generalize tolN s i = k at hS hto hkd
  generalize s.tasks[i] = t at hx hS htm hwk
  have HT := Lib.hid hto
  clear hto hk
  have hx1 := hx
  obtain ⟨x0, x1, x2, x3, x4, x5, x6, x7, x8⟩ := hx1.under
  have y2 := x2 W (Ext.refl W)
  have hc := hB.cell
  have hc2 := hB2.cell
  clear x0 x1 x2 x3 x4 x5 x6 x7 x8
  have hkb : (k : Int) ≤ 10001 := by
    rw [hkd]
    have := (oddN_spec (fun b => accS s i b) (s.tasks[i].D + 1).toNat).1
    have := hft.time
    omega
  clear hkd
  go_wp2_with (fail)
  refine hS.mono ?_
  rintro e w1 ⟨rfl, hb⟩
  have hX1 : Ext W w1 := ⟨hb⟩
  by_cases hk0 : k = 0
  · have ht := HT.out
    rw [if_pos hk0] at ht
    have HT2 := Lib.hid ht
    clear ht
    subst hk0
    go_wp2_with (fail)
    exact bodyPost_ret (v := optN none) (by simp [optN, results, Tryz.results28, go_sem, *]) rfl ⟨by rw [HT2.out], hL.trans (hX1.below.mono hL.size)⟩
  · have ht := HT.out
    rw [if_neg hk0] at ht
    have HT2 := Lib.hid ht
    clear ht
    go_wp2_with (fail)
    exact bodyPost_ret (v := optN (some ((k : Int) - 1))) (by simp [optN, results, Tryz.results28, go_sem, *]) rfl ⟨by rw [HT2.out], hL.trans (hX1.below.mono hL.size)⟩
end Go.Proofs.YtknfdjnbndfboabGreatDoor
/- toler.All. -/
namespace Go.Proofs.YtknfdjnbndfboabGreatDoor
open Go.RowKit
attribute [local go_sem] setCell_twice ByteArray.toList_eq str_list Ext.alloc Ext.drew
set_option linter.unusedSimpArgs false
set_option maxRecDepth 100000
set_option maxHeartbeats 6400000
attribute [local irreducible] popN

/-- what the first n bear -/
def tolL (s : TSet) : Nat → Option (List Int)
  | 0 => some []
  | n + 1 => match tolL s n, tolO s n with
    | some l, some b => some (l ++ [b])
    | _, _ => none
theorem tolL_len (s : TSet) : ∀ (n : Nat) (l : List Int), tolL s n = some l → l.length = n
  | 0, l, h => by cases h; rfl
  | n + 1, l, h => by
    unfold tolL at h
    split at h
    · rename_i l0 b h1 h2
      cases h
      rw [List.length_append, tolL_len s n l0 h1]
      rfl
    · cases h
theorem tolL_none (s : TSet) (n : Nat) (h : tolL s n = none) : ∀ d, tolL s (n + d) = none
  | 0 => h
  | d + 1 => by
    show (match tolL s (n + d), tolO s (n + d) with | some l, some b => some (l ++ [b]) | _, _ => none) = none
    rw [tolL_none s n h d]
theorem tolL_stop (s : TSet) {n m : Nat} (hn : n < m) (h : tolO s n = none) : tolL s m = none := by
  have h1 : tolL s (n + 1) = none := by
    unfold tolL
    rw [h]
    cases tolL s n <;> rfl
  have := tolL_none s (n + 1) h1 (m - (n + 1))
  rwa [show n + 1 + (m - (n + 1)) = m by omega] at this
theorem tolL_step (s : TSet) {n : Nat} {l : List Int} {b : Int} (h1 : tolL s n = some l) (h2 : tolO s n = some b) : tolL s (n + 1) = some (l ++ [b]) := by
  unfold tolL
  rw [h1, h2]
def tolS (s : TSet) : Option (List Int) := if allB s = true then tolL s s.tasks.length else none
def tolI (s : TSet) (i : Int) : Option Int := if (0 ≤ i ∧ i < s.tasks.length) ∧ allB s = true then tolO s i.toNat else none
theorem tolerAll_any (s : TSet) (v : Value) (w : World) (hv : Tasks w v s.tasks) (hf : s.fit) (hG : GOK w) :
    Calls Tryz.prog 17 #[setV s v] w fun e w' => ∃ v', e = .returned (.tuple #[v', .bool (tolS s).isSome]) ∧ RowI w' w.heap.size v' ((tolS s).getD []) ∧ Below w.heap.size w w' := by
  have l1 := hv.len
  have hg := hf.good
  have hv0 := hv
  obtain ⟨A, c, rfl, hle, hcm, _⟩ := hv0
  unfold maxLen at hcm
  go_enter Tryz.func17, Tryz.ntmps17
  unfold setV
  go_upto_region 1 with (fail)
  have hL : Below w.heap.size w (w.alloc (.cells #[.int .i64 s.reload, (.slice A s.tasks.length c)] 24)) := (by repeat (first | exact Below.refl _ _ | assumption | refine Below.drew ?_ | refine Below.alloc ?_ (by first | (simp; done) | (simp; omega) | omega) _ | refine Below.setCell ?_ (by first | (simp; done) | (simp; omega) | omega) _)); have hB : Blk (w.alloc (.cells #[.int .i64 s.reload, (.slice A s.tasks.length c)] 24)) w.heap.size #[.int .i64 s.reload, (.slice A s.tasks.length c)] 24 := Blk.new _ _ _
  have hr := hv.ext ⟨hL⟩
  have hG0 := hG.below hL
  generalize w.alloc _ = W at hL hB hr hG0 ⊢
  have hc := hB.cell
  go_wp2_with (fail)
  refine (all_any s _ _ hr hg hG0).mono ?_
  rintro e w1 ⟨rfl, hb1⟩
  have hX1 : Ext W w1 := ⟨hb1⟩
  cases hal : allB s with
  | false =>
    have hts : tolS s = none := by unfold tolS; rw [hal]; rfl
    have HTS := Lib.hid hts
    clear hts
    go_wp2_with (fail)
    exact bodyPost_ret (v := .tuple #[.slice none 0 0, .bool false]) (by simp [results, Tryz.results17, go_sem, *]) rfl ⟨_, by rw [HTS.out]; rfl, by rw [HTS.out]; exact OwnL.nil, hL.trans (hX1.below.mono hL.size)⟩
  | true =>
    have hs := fine_of hal hf
    have hlen := hs.len
    have hts : tolS s = tolL s s.tasks.length := by unfold tolS; rw [hal]; rfl
    have HTS := Lib.hid hts
    clear hts hal hc
    have hc1 := (hB.ext hX1).cell
    go_wp2_with (fail)
    clear hc1
    go_loopw [4, 14] (fun l k wr => ∃ (q : Nat) (ls : List Int), q ≤ s.tasks.length ∧ k = .int .i64 q ∧ Hid (tolL s q = some ls) ∧ RowI wr W.heap.size l ls ∧ Ext W wr) (fun _ k _ => s.tasks.length - (intOf k).toNat)
    case atStart => exact ⟨0, [], Nat.zero_le _, rfl, Lib.hid rfl, OwnL.nil, hX1⟩
    case round =>
      obtain ⟨q, ls, hq, rfl, HL, hO, hX⟩ := hrel
      have hcr := (hB.ext hX).cell
      have hll : ls.length = q := tolL_len s q ls HL.out
      by_cases hlt : q < s.tasks.length
      · have hT := tolOf_any s (.slice A s.tasks.length c) q wr (hr.ext hX) hs hlt
        have H1 := Lib.hid fun (h : tolO s q = none) => tolL_stop s hlt h
        have H2 := Lib.hid fun (b : Int) (h : tolO s q = some b) => tolL_step s HL.out h
        have HLL := Lib.hid hll
        clear hll
        cases ht : tolO s q with
        | none =>
          have H3 := Lib.hid (H1.out ht)
          rw [ht] at hT
          unfold optN at hT
          clear ht
          go_wp2_with (fail)
          refine hT.mono ?_
          rintro e w2 ⟨rfl, hb2⟩
          have hX2 := hX.call hb2
          go_wp2_with (fail)
          exact bodyPost_ret (v := .tuple #[.slice none 0 0, .bool false]) (by simp [results, Tryz.results17, go_sem, *]) rfl ⟨_, by rw [HTS.out, H3.out]; rfl, by rw [HTS.out, H3.out]; exact OwnL.nil, hL.trans (hX2.below.mono hL.size)⟩
        | some b =>
          have H3 := Lib.hid (H2.out b ht)
          rw [ht] at hT
          unfold optN at hT
          dsimp only at hT
          clear ht
          have hO := hO
          obtain ⟨Av, cv, rfl, _, _⟩ := OwnL.form hO
          go_wp2_with (fail)
          refine hT.mono ?_
          rintro e w2 ⟨rfl, hb2⟩
          have hX2 := hX.call hb2
          have hO2 := OwnL.below hO hb2
          go_wp2_with (at_builtin; (refine wpList_push rfl _ _ 34 rfl W.heap.size 2 Tryz.underlying34 infoI64 rfl (by decide) (by decide) encI ls _ rfl (hO2.alloc _) b w2.heap.size #[.int .i64 b] 2 rfl (Blk.new _ _ _) rfl rfl (by simp [encI, Value.oneCell']) ?_ ?_ ?_; (· have := HLL.out; omega); (· have := hX2.size; simp; omega); (intro v2 w8 hown hg hloc _)))
          have hX8 : Ext W w8 := (hX2.alloc (.cells #[.int .i64 b] 2)).grown hg (fun j hj => (OwnL.lt hO2 j hj).1)
          exact ⟨⟨q + 1, ls ++ [b], hlt, rfl, H3, hown, hX8⟩, by simp [intOf]; omega⟩
      · have hqe : q = s.tasks.length := Nat.le_antisymm hq (Nat.not_lt.1 hlt)
        have hts := HTS.out
        rw [← hqe, HL.out] at hts
        have HT2 := Lib.hid hts
        clear hts
        obtain ⟨Av, cv, rfl, _, _⟩ := OwnL.form hO
        go_wp2_with (fail)
        exact bodyPost_ret (v := .tuple #[.slice Av ls.length cv, .bool true]) (by simp [results, Tryz.results17, go_sem, *]) rfl ⟨_, by rw [HT2.out]; rfl, by rw [HT2.out]; exact OwnL.lower hO hL.size, hL.trans (hX.below.mono hL.size)⟩
end Go.Proofs.YtknfdjnbndfboabGreatDoor
