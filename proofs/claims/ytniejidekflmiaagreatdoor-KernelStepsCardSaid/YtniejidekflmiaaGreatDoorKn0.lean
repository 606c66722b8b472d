/- What the kernel is made of: closures, clones. -/
import Derived.Test.YtniejidekflmiaaGreatDoorProg
import Derived.Test.YtniejidekflmiaaGreatDoorBase
import Derived.Test.YtniejidekflmiaaGreatDoorHeldX
import Derived.Test.YtniejidekflmiaaGreatDoorApp
import Derived.Test.YtniejidekflmiaaGreatDoorExt0
import Derived.Test.YtniejidekflmiaaGreatDoorChg
import Derived.Test.YtniejidekflmiaaGreatDoorRowB
import Derived.Test.YtniejidekflmiaaGreatDoorKM
import Derived.Test.YtniejidekflmiaaGreatDoorKP1
import Derived.Test.YtniejidekflmiaaGreatDoorOpenI
import Derived.Test.YtniejidekflmiaaGreatDoorTsk1
import Derived.Test.YtniejidekflmiaaGreatDoorKpol
import Derived.Test.YtniejidekflmiaaGreatDoorKjob
import Derived.Test.YtniejidekflmiaaGreatDoorKcac
import Derived.Lib.BufferMore
import Derived.Deep.DeepMust
import Derived.Deep.Cut
import Derived.Lib.Hide
import Derived.OwnWalk
import Derived.Maps.AppendAt
namespace Go.Proofs.YtniejidekflmiaaGreatDoor
open Go.RowKit
attribute [local go_sem] setCell_twice Ext.alloc Ext.drew
set_option linter.unusedSimpArgs false
set_option maxRecDepth 100000
set_option maxHeartbeats 400000
attribute [local irreducible] Calls

theorem isRegJ_any (n : Int) (w : World) :
    Calls Tryz.prog 110 #[.int .i64 n] w fun e w' => e = .returned (.bool (!regB n)) ∧ w = w' := by
  have hE : (!regB n) = (decide (n < 1) || decide (n > 10000)) := by
    unfold regB
    by_cases h1 : n < 1 <;> by_cases h2 : n > 10000 <;> simp [h1, h2] <;> omega
  rw [hE]
  cases hd : decide (n < 1) with
  | false =>
    go_enter Tryz.func110, Tryz.ntmps110
    go_wp2_with (fail)
    go_ret
    exact ⟨rfl, by first | trivial | rfl⟩
  | true =>
    go_enter Tryz.func110, Tryz.ntmps110
    go_wp2_with (fail)
    go_ret
    exact ⟨rfl, by first | trivial | rfl⟩
set_option maxHeartbeats 1600000 in
set_option maxRecDepth 100000 in
theorem indexJ_any (v : Value) (xs : List Int) (w : World) (hv : Ints w v xs) :
    Calls Tryz.prog 106 #[v, .func (.func 110) #[] #[]] w fun e w' => (∃ i : Int, e = .returned (.int .i64 i) ∧ (xs.all regB = true → i = -1) ∧ (xs.all regB = false → 0 ≤ i)) ∧ w = w' := by
  obtain ⟨A, c, rfl, h1, h2, h3⟩ := hv
  unfold maxLen at h2
  go_enter Tryz.func106, Tryz.ntmps106
  go_wp2_with (fail)
  go_loopw [5, 8] (fun _ i wr => ∃ k : Nat, k ≤ xs.length ∧ i = .int .i64 k ∧ (xs.take k).all regB = true ∧ wr = w) (fun _ i _ => xs.length - (intOf i).toNat)
  case atStart => exact ⟨0, Nat.zero_le _, rfl, rfl, rfl⟩
  case round =>
    obtain ⟨k, hk, rfl, hall, rfl⟩ := hrel
    have HA := Lib.hid hall; clear hall
    by_cases hlt : k < xs.length
    · obtain ⟨b, o, rfl, hx⟩ := h3 (by intro e; rw [e] at hlt; simp at hlt)
      have hc := hx k hlt
      clear hx h3
      have hs : xs.take (k + 1) = xs.take k ++ [xs[k]] := List.take_succ_eq_append_getElem hlt
      have hm : xs[k] ∈ xs := List.getElem_mem hlt
      generalize xs[k] = x at hc hs hm
      have HS := Lib.hid hs; clear hs
      have HM := Lib.hid hm; clear hm
      cases hR : regB x with
      | true =>
        go_wp2_with (go_at_call 110; refine (isRegJ_any _ _).mono ?_; rintro e w' ⟨rfl, rfl⟩)
        exact ⟨⟨k + 1, hlt, rfl, by rw [HS.out, List.all_append, HA.out]; simp [hR], (by first | trivial | rfl)⟩, by simp [intOf]; omega⟩
      | false =>
        go_wp2_with (go_at_call 110; refine (isRegJ_any _ _).mono ?_; rintro e w' ⟨rfl, rfl⟩)
        go_ret
        refine ⟨⟨k, rfl, fun h => ?_, fun _ => by omega⟩, rfl⟩
        rw [List.all_eq_true] at h
        rw [h x HM.out] at hR
        cases hR
    · obtain rfl : k = xs.length := by omega
      go_wp2_with (fail)
      go_ret
      have hall := HA.out
      rw [List.take_length] at hall
      exact ⟨⟨-1, rfl, fun _ => rfl, fun h => by rw [hall] at h; cases h⟩, rfl⟩
theorem containsFJ_any (v : Value) (xs : List Int) (w : World) (hv : Ints w v xs) :
    Calls Tryz.prog 58 #[v, .func (.func 110) #[] #[]] w fun e w' => e = .returned (.bool (!xs.all regB)) ∧ w = w' := by
  go_enter Tryz.func58, Tryz.ntmps58
  cases hA : xs.all regB with
  | true =>
    go_wp2_with (go_at_call 106; refine (indexJ_any _ _ _ hv).mono ?_; rintro e w' ⟨⟨i, rfl, hi, _⟩, rfl⟩; have hi2 := hi hA)
    go_ret
    exact ⟨rfl, rfl⟩
  | false =>
    go_wp2_with (go_at_call 106; refine (indexJ_any _ _ _ hv).mono ?_; rintro e w' ⟨⟨i, rfl, _, hi⟩, rfl⟩; have hi2 := hi hA)
    go_ret
    exact ⟨by first | (simp; done) | (simp; omega), rfl⟩
theorem isRegP_any (n : Int) (w : World) :
    Calls Tryz.prog 59 #[.int .i64 n] w fun e w' => e = .returned (.bool (!regB n)) ∧ w = w' := by
  have hE : (!regB n) = (decide (n < 1) || decide (n > 10000)) := by
    unfold regB
    by_cases h1 : n < 1 <;> by_cases h2 : n > 10000 <;> simp [h1, h2] <;> omega
  rw [hE]
  cases hd : decide (n < 1) with
  | false =>
    go_enter Tryz.func59, Tryz.ntmps59
    go_wp2_with (fail)
    go_ret
    exact ⟨rfl, by first | trivial | rfl⟩
  | true =>
    go_enter Tryz.func59, Tryz.ntmps59
    go_wp2_with (fail)
    go_ret
    exact ⟨rfl, by first | trivial | rfl⟩
set_option maxHeartbeats 1600000 in
set_option maxRecDepth 100000 in
theorem indexP_any (v : Value) (xs : List Int) (w : World) (hv : Ints w v xs) :
    Calls Tryz.prog 106 #[v, .func (.func 59) #[] #[]] w fun e w' => (∃ i : Int, e = .returned (.int .i64 i) ∧ (xs.all regB = true → i = -1) ∧ (xs.all regB = false → 0 ≤ i)) ∧ w = w' := by
  obtain ⟨A, c, rfl, h1, h2, h3⟩ := hv
  unfold maxLen at h2
  go_enter Tryz.func106, Tryz.ntmps106
  go_wp2_with (fail)
  go_loopw [5, 8] (fun _ i wr => ∃ k : Nat, k ≤ xs.length ∧ i = .int .i64 k ∧ (xs.take k).all regB = true ∧ wr = w) (fun _ i _ => xs.length - (intOf i).toNat)
  case atStart => exact ⟨0, Nat.zero_le _, rfl, rfl, rfl⟩
  case round =>
    obtain ⟨k, hk, rfl, hall, rfl⟩ := hrel
    have HA := Lib.hid hall; clear hall
    by_cases hlt : k < xs.length
    · obtain ⟨b, o, rfl, hx⟩ := h3 (by intro e; rw [e] at hlt; simp at hlt)
      have hc := hx k hlt
      clear hx h3
      have hs : xs.take (k + 1) = xs.take k ++ [xs[k]] := List.take_succ_eq_append_getElem hlt
      have hm : xs[k] ∈ xs := List.getElem_mem hlt
      generalize xs[k] = x at hc hs hm
      have HS := Lib.hid hs; clear hs
      have HM := Lib.hid hm; clear hm
      cases hR : regB x with
      | true =>
        go_wp2_with (go_at_call 59; refine (isRegP_any _ _).mono ?_; rintro e w' ⟨rfl, rfl⟩)
        exact ⟨⟨k + 1, hlt, rfl, by rw [HS.out, List.all_append, HA.out]; simp [hR], (by first | trivial | rfl)⟩, by simp [intOf]; omega⟩
      | false =>
        go_wp2_with (go_at_call 59; refine (isRegP_any _ _).mono ?_; rintro e w' ⟨rfl, rfl⟩)
        go_ret
        refine ⟨⟨k, rfl, fun h => ?_, fun _ => by omega⟩, rfl⟩
        rw [List.all_eq_true] at h
        rw [h x HM.out] at hR
        cases hR
    · obtain rfl : k = xs.length := by omega
      go_wp2_with (fail)
      go_ret
      have hall := HA.out
      rw [List.take_length] at hall
      exact ⟨⟨-1, rfl, fun _ => rfl, fun h => by rw [hall] at h; cases h⟩, rfl⟩
theorem containsFP_any (v : Value) (xs : List Int) (w : World) (hv : Ints w v xs) :
    Calls Tryz.prog 58 #[v, .func (.func 59) #[] #[]] w fun e w' => e = .returned (.bool (!xs.all regB)) ∧ w = w' := by
  go_enter Tryz.func58, Tryz.ntmps58
  cases hA : xs.all regB with
  | true =>
    go_wp2_with (go_at_call 106; refine (indexP_any _ _ _ hv).mono ?_; rintro e w' ⟨⟨i, rfl, hi, _⟩, rfl⟩; have hi2 := hi hA)
    go_ret
    exact ⟨rfl, rfl⟩
  | false =>
    go_wp2_with (go_at_call 106; refine (indexP_any _ _ _ hv).mono ?_; rintro e w' ⟨⟨i, rfl, _, hi⟩, rfl⟩; have hi2 := hi hA)
    go_ret
    exact ⟨by first | (simp; done) | (simp; omega), rfl⟩
theorem clone_i64 (xs : List Int) (v : Value) (w : World) (hv : Ints w v xs) (hl : 1 ≤ xs.length ∧ xs.length ≤ 8) :
    Calls Tryz.prog 111 #[v] w fun e w' => ∃ v', e = .returned v' ∧ RowI w' w.heap.size v' xs ∧ Ext w w' := by
  have hN : ∀ w', Ext w w' → Ints w' v xs := fun w' hx => hv.ext hx
  obtain ⟨A, c, rfl, hle, hcm, hx⟩ := hv
  obtain ⟨b, o, rfl, hc⟩ := hx (fun e => by rw [e] at hl; simp at hl)
  have H := Lib.hid hN
  have HL := Lib.hid hl
  have hnil := Go.Lib.run_eql_slice_some_nil (P := Tryz.prog) w (t := 35) ⟨b, o, none⟩ xs.length c Tryz.underlying35
  have hfl : (xs.map (Value.int .i64)).length = xs.length * 1 := by simp
  have HF := Lib.hid hfl
  clear hl hc hx hN hfl
  go_enter Tryz.func111, Tryz.ntmps111
  go_wp2_with (at_builtin; (refine wpList_append_row rfl _ _ 35 rfl w.heap.size 2 Tryz.underlying35 infoI64 rfl (by decide) _ 0 [] rfl ?_ (some ⟨b, o, none⟩) xs.length c (xs.map (Value.int .i64)) rfl HF.out ?_ ?_ ?_ ?_ ?_ ?_; (· exact own_empty_n (Nat.le_refl _)); (· exact (H.out _ (Ext.refl w)).news ((Ext.refl w).alloc _)); (· exact fun u hu => by obtain ⟨x, _, rfl⟩ := List.mem_map.1 hu; rfl); (· have := HL.out; omega); (· have := HL.out; unfold maxLen; omega); (· rw [size_alloc]; omega); (intro v1 w1 hown1 hg1 hloc1 _; obtain ⟨A1, c1, rfl⟩ := own_slice hown1)))
  go_ret
  simp only [Nat.zero_add, List.nil_append] at hown1
  refine ⟨.slice A1 xs.length c1, rfl, ?_, ((Ext.refl w).alloc (.cells #[] 2)).grown hg1 (fun k e => by cases e; exact Nat.le_refl _)⟩
  unfold RowI OwnL
  rw [encI_flat]
  exact hown1
theorem news_cache (w : World) :
    Calls Tryz.prog 30 #[] w fun e w' => e = .returned (.pointer (some ⟨w.heap.size, 0, none⟩)) ∧ CacheAt w' w.heap.size (List.replicate 64 0) ∧ Ext w w' := by
  go_enter Tryz.func30, Tryz.ntmps30
  go_wp2_with (fail)
  go_ret
  exact ⟨rfl, ⟨Blk.new _ _ _, rfl⟩, (Ext.refl _).alloc _⟩
theorem infoWa : (Tryz.prog.info? 124).map (fun i => (i.zero, i.size, i.bytes)) = some (some (.agg #[.int .i64 0, .int .i64 0, .bool false]), 3, 24) := by kernel_rfl
theorem encWa_one (p : Int × Int) : ∀ u ∈ encWa p, u.oneCell' = true := by
  intro u hu
  simp only [encWa, List.mem_cons, List.not_mem_nil, or_false] at hu
  rcases hu with rfl | rfl | rfl <;> rfl
theorem regs_in {xs : List Int} (h : ∀ x ∈ xs, 1 ≤ x ∧ x ≤ 10000) : xs.all regB = true := by
  rw [List.all_eq_true]
  intro x hx
  have := h x hx
  unfold regB
  rw [decide_eq_true (by omega), decide_eq_true (by omega)]
  rfl
theorem new_pol (ts : List Int) (v : Value) (w : World) (hv : Ints w v ts) (hl : ts.length ≤ 8) (ht : ∀ x ∈ ts, 1 ≤ x ∧ x ≤ 10000) :
    Calls Tryz.prog 32 #[v] w fun e w' => ∃ gp vp, e = .returned (.pointer (some ⟨gp, 0, none⟩)) ∧ w.heap.size ≤ gp ∧ PolAt w' gp vp (ts.map fun t => (t, -1)) ∧ (∀ k, vp.ownBlock = some k → w.heap.size ≤ k) ∧ Ext w w' := by
  have hN : ∀ w', Ext w w' → Ints w' v ts := fun w' hx => hv.ext hx
  have hC := containsFP_any v ts w hv
  rw [regs_in ht] at hC
  obtain ⟨A, c, rfl, hle, hcm, _⟩ := hv
  have HC := Lib.hid hC
  have HT := Lib.hid ht
  clear hC ht
  go_enter Tryz.func32, Tryz.ntmps32
  go_wp2_with (fail)
  refine HC.out.mono ?_
  rintro e w1 ⟨rfl, rfl⟩
  go_wp2_with (fail)
  have hX0 := (Ext.refl w).alloc (.cells #[.slice none 0 0] 122)
  have hB0 := Blk.new w #[.slice none 0 0] 122
  go_loopw [17] (fun i wr => ∃ (k : Nat) (vp : Value), k ≤ ts.length ∧ i = .int .i64 k ∧ Blk wr w.heap.size #[vp] 122 ∧ OwnL encWa wr w.heap.size 124 3 vp ((ts.take k).map fun t => (t, -1)) ∧ Ext w wr) (fun i _ => ts.length - (intOf i).toNat)
  case atStart => exact ⟨0, _, by omega, rfl, hB0, by simpa using OwnL.nil, hX0⟩
  case round =>
    obtain ⟨k, vp, hk, rfl, hB, hO, hX⟩ := hrel
    clear hX0 hB0
    by_cases hlt : k < ts.length
    · obtain ⟨b, o, rfl, hx⟩ := (hN wr hX).at hlt
      have hx0 := hx wr (Ext.refl _)
      have HL := Lib.hid (List.take_succ_eq_append_getElem hlt)
      generalize ts[k] = t at *
      have hcB := hB.cell
      obtain ⟨Av, cv, e, _, _⟩ := OwnL.form hO
      subst e
      have hlen : ((ts.take k).map fun t => (t, (-1 : Int))).length = k := by simp; omega
      rw [hlen] at hO hB hcB
      have HLL := Lib.hid hlen
      clear hx hlen
      generalize hls : ((ts.take k).map fun t => (t, (-1 : Int))) = ls at *
      have HS := Lib.hid hls
      clear hls
      go_wp2_with (at_builtin; (refine wpList_push rfl _ _ 120 rfl w.heap.size 124 Tryz.underlying120 infoWa rfl (by decide) (by decide) encWa ls _ rfl (hO.alloc _) (t, -1) wr.heap.size #[.int .i64 t, .int .i64 0, .bool false] 124 rfl (Blk.new _ _ _) rfl rfl (encWa_one _) ?_ ?_ ?_; (· have := HLL.out; omega); (· have := hX.size; simp; omega); (intro v4 w4 hown hg hloc _; have hV4 := (hB.alloc (.cells #[.int .i64 t, .int .i64 0, .bool false] 124)).grown hg (own_ne_blk hO hB (by decide)); have hc4 := hV4.cell; have hf4 := hV4.free; clear hcB; obtain ⟨A4, c4, rfl⟩ := own_slice hown)))
      have hX4 : Ext w w4 := (hX.alloc (.cells #[.int .i64 t, .int .i64 0, .bool false] 124)).grown hg (fun j hj => (OwnL.lt hO j hj).1)
      have hX5 := hX4.set (g := w.heap.size) (i := 0) (Nat.le_refl _) (.slice A4 (ls ++ [(t, (-1 : Int))]).length c4)
      have hV5 := hV4.set 0 (.slice A4 (ls ++ [(t, (-1 : Int))]).length c4)
      simp only [List.setIfInBounds_toArray, List.set_cons_zero] at hV5
      have hO5 := OwnL.set hown (a := ⟨w.heap.size, 0, none⟩) (own_ne_blk hown hV4 (by decide)) (.slice A4 (ls ++ [(t, (-1 : Int))]).length c4)
      have hE : ((ts.take (k + 1)).map fun t => (t, (-1 : Int))) = ls ++ [(t, -1)] := by rw [HL.out, List.map_append, HS.out]; rfl
      rw [List.length_append, List.length_singleton] at hX5 hV5 hO5
      exact ⟨⟨k + 1, _, hlt, rfl, hV5, by rw [hE]; exact hO5, hX5⟩, by simp [intOf]; omega⟩
    · obtain rfl : k = ts.length := by omega
      rw [List.take_length] at hO
      have HO := Lib.hid hO
      clear hO
      go_wp2_with (fail)
      go_ret
      refine ⟨_, vp, rfl, Nat.le_refl _, ⟨hB, HO.out.lower (Nat.zero_le _), by rw [List.length_map]; exact hl, fun p hp => ?_⟩, fun k hk => (OwnL.lt HO.out k hk).1, hX⟩
      obtain ⟨t, ht, rfl⟩ := List.mem_map.1 hp
      have := HT.out t ht
      dsimp only
      omega
theorem dem_step (_rs ds : List Int) (k : Nat) : (List.range (k + 1)).map (demL ds) = (List.range k).map (demL ds) ++ [demL ds k] := by rw [List.range_succ, List.map_append]; rfl
theorem new_job (rs ds : List Int) (v vd : Value) (w : World) (hv : Ints w v rs) (hd : Ints w vd ds) (hl : 1 ≤ rs.length ∧ rs.length ≤ 8) (hr : ∀ x ∈ rs, 1 ≤ x ∧ x ≤ 10000) :
    Calls Tryz.prog 65 #[v, vd] w fun e w' => ∃ g, e = .returned (.pointer (some ⟨g, 0, none⟩)) ∧ w.heap.size ≤ g ∧ JobAt w' w.heap.size g (newJ rs ds) ∧ Ext w w' := by
  have hD : ∀ w', Ext w w' → Ints w' vd ds := fun w' hx => hd.ext hx
  have hC := containsFJ_any v rs w hv
  have hK := fun w' (hx : Ext w w') => clone_i64 rs v w' (hv.ext hx) hl
  rw [regs_in hr] at hC
  obtain ⟨A, c, rfl, hle, hcm, _⟩ := hv
  obtain ⟨A2, c2, rfl, hle2, hcm2, _⟩ := hd
  unfold maxLen at hcm2
  obtain ⟨hl1, hl2⟩ := hl
  have HC := Lib.hid hC
  have HK := Lib.hid hK
  have HD := Lib.hid hD
  clear hC hr hK hD
  go_enter Tryz.func65, Tryz.ntmps65
  go_wp2_with (fail)
  refine HC.out.mono ?_
  rintro e w1 ⟨rfl, rfl⟩
  go_wp2_with (fail)
  refine (HK.out _ (Ext.refl _)).mono ?_
  rintro e w1 ⟨vr, rfl, hR, hX⟩
  obtain ⟨Ar, cr, e, _, _⟩ := OwnL.form hR
  subst e
  go_wp2_with (fail)
  have hX0 := hX.alloc (.cells #[.slice Ar rs.length cr, .slice none 0 0, .int .i64 0, .int .i64 0, .int .i64 0, .int .i64 0] 167)
  have hB0 := Blk.new w1 #[.slice Ar rs.length cr, .slice none 0 0, .int .i64 0, .int .i64 0, .int .i64 0, .int .i64 0] 167
  have hR0 := OwnL.alloc hR (.cells #[.slice Ar rs.length cr, .slice none 0 0, .int .i64 0, .int .i64 0, .int .i64 0, .int .i64 0] 167)
  have hg := hX.size
  generalize w1.heap.size = g at *
  go_loopw [28] (fun i wr => ∃ (k : Nat) (vp : Value), k ≤ rs.length ∧ i = .int .i64 k ∧ Blk wr g #[.slice Ar rs.length cr, vp, .int .i64 0, .int .i64 0, .int .i64 0, .int .i64 0] 167 ∧ RowI wr w.heap.size (.slice Ar rs.length cr) rs ∧ RowI wr w.heap.size vp ((List.range k).map (demL ds)) ∧ (∀ q, vp.ownBlock = some q → (Value.slice Ar rs.length cr).ownBlock ≠ some q) ∧ Ext w wr) (fun i _ => rs.length - (intOf i).toNat)
  case atStart => exact ⟨0, _, by omega, rfl, hB0, hR0, OwnL.nil, by simp [Value.ownBlock], hX0⟩
  case round =>
    obtain ⟨k, vp, hk, rfl, hB, hR1, hO, hne, hX1⟩ := hrel
    clear hX0 hB0 hR0 hX hR
    by_cases hlt : k < rs.length
    · have hcB := hB.cell
      obtain ⟨Av, cv, e, _, _⟩ := OwnL.form hO
      subst e
      have hlen : ((List.range k).map (demL ds)).length = k := by simp
      have hstep := dem_step rs ds k
      rw [hlen] at hO hB hcB hne
      have HLL := Lib.hid hlen
      have HS := Lib.hid hstep
      clear hlen hstep
      generalize (List.range k).map (demL ds) = ls at *
      by_cases hkd : k < ds.length
      · obtain ⟨b, o, rfl, hx⟩ := (HD.out wr hX1).at hkd
        have hx0 := hx wr (Ext.refl _)
        have hdv : demL ds k = max 1 ds[k] := by unfold demL; rw [getD_at hkd]
        generalize ds[k] = z at *
        clear hx
        go_upto_region 11 with (fail)
        generalize hy : max 1 z = y at *
        go_wp2_with (at_builtin; (refine wpList_push rfl _ _ 35 rfl w.heap.size 2 Tryz.underlying35 infoI64 rfl (by decide) (by decide) encI ls _ rfl (OwnL.alloc hO _) y wr.heap.size #[.int .i64 y] 2 rfl (Blk.new _ _ _) rfl rfl (by simp [encI, Value.oneCell']) ?_ ?_ ?_; (· have := HLL.out; omega); (· have := hX1.size; simp; omega); (intro v4 w4 hown hg hloc _; have hV4 := (hB.alloc (.cells #[.int .i64 y] 2)).grown hg (own_ne_blk hO hB (by decide)); have hc4 := hV4.cell; have hf4 := hV4.free; clear hcB; obtain ⟨A4, c4, rfl⟩ := own_slice hown)))
        have hX4 : Ext w w4 := (hX1.alloc (.cells #[.int .i64 y] 2)).grown hg (fun j hj => (OwnL.lt hO j hj).1)
        have hX5 := hX4.set (g := g) (i := 1) (by omega) (.slice A4 (ls ++ [y]).length c4)
        have hV5 := hV4.set 1 (.slice A4 (ls ++ [y]).length c4)
        simp only [List.setIfInBounds_toArray, List.set_cons_zero, List.set_cons_succ] at hV5
        have hO5 := OwnL.set hown (a := ⟨g, 1, none⟩) (own_ne_blk hown hV4 (by decide)) (.slice A4 (ls ++ [y]).length c4)
        have hR4 := (OwnL.alloc hR1 (.cells #[.int .i64 y] 2)).grown hg (fun q hq e => hne q e hq)
        have hR5 := OwnL.set hR4 (a := ⟨g, 1, none⟩) (own_ne_blk hR4 hV4 (by decide)) (.slice A4 (ls ++ [y]).length c4)
        have hne5 : ∀ q, (Value.slice A4 (ls ++ [y]).length c4).ownBlock = some q → (Value.slice Ar rs.length cr).ownBlock ≠ some q := fun q hq e => by
          rcases hloc with h | h
          · exact hne q (h.symm.trans hq) e
          · have h2 := hR1.lt q e
            rw [h] at hq
            have := Option.some.inj hq
            rw [size_alloc] at this
            omega
        rw [List.length_append, List.length_singleton] at hX5 hV5 hO5 hR5 hne5
        exact ⟨⟨k + 1, _, hlt, rfl, hV5, hR5, by rw [HS.out, hdv]; exact hO5, hne5, hX5⟩, by simp [intOf]; omega⟩
      · have hdv : demL ds k = 1 := by unfold demL; rw [show ds.getD k 1 = 1 by simp [List.getD, List.getElem?_eq_none (show ds.length ≤ k by omega)]]; rfl
        go_upto_region 11 with (fail)
        go_wp2_with (at_builtin; (refine wpList_push rfl _ _ 35 rfl w.heap.size 2 Tryz.underlying35 infoI64 rfl (by decide) (by decide) encI ls _ rfl (OwnL.alloc hO _) 1 wr.heap.size #[.int .i64 1] 2 rfl (Blk.new _ _ _) rfl rfl (by simp [encI, Value.oneCell']) ?_ ?_ ?_; (· have := HLL.out; omega); (· have := hX1.size; simp; omega); (intro v4 w4 hown hg hloc _; have hV4 := (hB.alloc (.cells #[.int .i64 1] 2)).grown hg (own_ne_blk hO hB (by decide)); have hc4 := hV4.cell; have hf4 := hV4.free; clear hcB; obtain ⟨A4, c4, rfl⟩ := own_slice hown)))
        have hX4 : Ext w w4 := (hX1.alloc (.cells #[.int .i64 1] 2)).grown hg (fun j hj => (OwnL.lt hO j hj).1)
        have hX5 := hX4.set (g := g) (i := 1) (by omega) (.slice A4 (ls ++ [1]).length c4)
        have hV5 := hV4.set 1 (.slice A4 (ls ++ [1]).length c4)
        simp only [List.setIfInBounds_toArray, List.set_cons_zero, List.set_cons_succ] at hV5
        have hO5 := OwnL.set hown (a := ⟨g, 1, none⟩) (own_ne_blk hown hV4 (by decide)) (.slice A4 (ls ++ [1]).length c4)
        have hR4 := (OwnL.alloc hR1 (.cells #[.int .i64 1] 2)).grown hg (fun q hq e => hne q e hq)
        have hR5 := OwnL.set hR4 (a := ⟨g, 1, none⟩) (own_ne_blk hR4 hV4 (by decide)) (.slice A4 (ls ++ [1]).length c4)
        have hne5 : ∀ q, (Value.slice A4 (ls ++ [1]).length c4).ownBlock = some q → (Value.slice Ar rs.length cr).ownBlock ≠ some q := fun q hq e => by
          rcases hloc with h | h
          · exact hne q (h.symm.trans hq) e
          · have h2 := hR1.lt q e
            rw [h] at hq
            have := Option.some.inj hq
            rw [size_alloc] at this
            omega
        rw [List.length_append, List.length_singleton] at hX5 hV5 hO5 hR5 hne5
        exact ⟨⟨k + 1, _, hlt, rfl, hV5, hR5, by rw [HS.out, hdv]; exact hO5, hne5, hX5⟩, by simp [intOf]; omega⟩
    · obtain rfl : k = rs.length := by omega
      go_wp2_with (fail)
      go_ret
      exact ⟨_, rfl, hg, ⟨_, _, _, ⟨hB, hR1, hO⟩⟩, hX1⟩
end Go.Proofs.YtniejidekflmiaaGreatDoor
