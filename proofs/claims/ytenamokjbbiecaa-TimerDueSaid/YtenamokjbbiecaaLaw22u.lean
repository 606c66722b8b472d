/- TimerDue. -/
import Derived.Test.YtenamokjbbiecaaProg
import Derived.Test.YtenamokjbbiecaaBase
import Derived.Test.YtenamokjbbiecaaHeldX
import Derived.Test.YtenamokjbbiecaaApp
import Derived.Test.YtenamokjbbiecaaExt0
import Derived.Test.YtenamokjbbiecaaChg
import Derived.Test.YtenamokjbbiecaaMapR
import Derived.Test.YtenamokjbbiecaaMapF
import Derived.Test.YtenamokjbbiecaaTimP
import Derived.Test.YtenamokjbbiecaaTim
import Derived.Test.YtenamokjbbiecaaTimT
import Derived.Test.YtenamokjbbiecaaTskI
import Derived.Test.YtenamokjbbiecaaLaw22k
import Derived.Test.YtenamokjbbiecaaOpenI
import Derived.Deep.Cut
import Derived.Lib.Hide
import Derived.OwnWalk
namespace Go.Proofs.Ytenamokjbbiecaa
open Go.RowKit
attribute [local go_sem] setCell_twice ByteArray.toList_eq str_list Ext.alloc Ext.drew
set_option linter.unusedSimpArgs false
set_option maxRecDepth 100000
set_option maxHeartbeats 6400000
attribute [local irreducible] Calls

def fD (xs : List Int) (n : Int) : Int → Option Int := fun x => if 0 ≤ x ∧ x < xs.length ∧ n ≤ xs.getD x.toNat 0 then some (xs.getD x.toNat 0 - n) else none
theorem fD_nil : fD [] 0 = fun _ => none := by
  funext x
  unfold fD
  rw [if_neg (fun h => by have := h.2.1; rw [List.length_nil] at this; omega)]
theorem fD_add {xs : List Int} {k : Nat} (hk : k < xs.length) (h : 0 ≤ xs[k] ∧ xs[k] ≤ 60) : addB (fD (xs.take k) 0) k xs[k] = true ∧ addF (fD (xs.take k) 0) k xs[k] = fD (xs.take (k + 1)) 0 := by
  have hl : (xs.take k).length = k := by rw [List.length_take]; omega
  have hl2 : (xs.take (k + 1)).length = k + 1 := by rw [List.length_take]; omega
  have e : fD (xs.take k) 0 k = none := by
    unfold fD
    rw [if_neg (by rw [hl]; omega)]
  have hb : addB (fD (xs.take k) 0) k xs[k] = true := by
    unfold addB
    rw [e, decide_eq_true h.1, decide_eq_true (show xs[k] ≤ 1099511627776 by omega), Option.isSome_none]
    rfl
  refine ⟨hb, ?_⟩
  unfold addF
  rw [if_pos hb]
  funext x
  unfold upd
  by_cases hx : x = (k : Int)
  · subst hx
    rw [if_pos rfl]
    unfold fD
    have : (xs.take (k + 1)).getD (k : Int).toNat 0 = xs[k] := by
      rw [Int.toNat_natCast]
      simp [List.getD, List.getElem?_take, hk]
    rw [this, if_pos (by rw [hl2]; omega), Int.sub_zero]
  · rw [if_neg hx]
    unfold fD
    rw [hl, hl2]
    by_cases h1 : 0 ≤ x ∧ x < k
    · have : (xs.take k).getD x.toNat 0 = (xs.take (k + 1)).getD x.toNat 0 := by
        simp only [List.getD, List.getElem?_take]
        rw [if_pos (by omega), if_pos (by omega)]
      rw [this]
      by_cases h2 : 0 ≤ (xs.take (k + 1)).getD x.toNat 0
      · rw [if_pos ⟨h1.1, by omega, h2⟩, if_pos ⟨h1.1, by omega, h2⟩]
      · rw [if_neg (fun h => h2 h.2.2), if_neg (fun h => h2 h.2.2)]
    · rw [if_neg (by omega), if_neg (by omega)]
theorem fD_tick (xs : List Int) (n : Int) : tickF (fD xs n) = fD xs (n + 1) := by
  funext x
  unfold tickF fD
  by_cases h : 0 ≤ x ∧ x < xs.length ∧ n ≤ xs.getD x.toNat 0
  · rw [if_pos h]
    dsimp only
    by_cases h2 : xs.getD x.toNat 0 - n = 0
    · rw [if_pos h2, if_neg (by omega)]
    · rw [if_neg h2, if_pos (by omega)]
      congr 1
      omega
  · rw [if_neg h, if_neg (by omega)]
theorem fD_pos {xs : List Int} {n x m : Int} (h : fD xs n x = some m) : 0 ≤ m := by
  unfold fD at h
  split at h
  · injection h with h; omega
  · cases h
def wantL (xs : List Int) (n : Int) (k : Nat) : List Int := ((List.range k).filter fun i => decide (xs.getD i 0 = n)).map fun i : Nat => (i : Int)
theorem want_step (xs : List Int) (n : Int) (k : Nat) : wantL xs n (k + 1) = if xs.getD k 0 = n then wantL xs n k ++ [(k : Int)] else wantL xs n k := by
  unfold wantL
  rw [List.range_succ, List.filter_append]
  by_cases h : xs.getD k 0 = n
  · simp only [List.filter_cons, List.filter_nil, decide_eq_true h, if_true, if_pos h, List.map_append, List.map_cons, List.map_nil]
  · simp only [List.filter_cons, List.filter_nil, decide_eq_false h, Bool.false_eq_true, if_false, if_neg h, List.append_nil]
theorem want_len (xs : List Int) (n : Int) (k : Nat) : (wantL xs n k).length ≤ k := by
  unfold wantL
  rw [List.length_map]
  exact Nat.le_trans (List.length_filter_le _ _) (by simp)
theorem want_due {xs : List Int} {n : Int} {ids : List Int} (h : Due (fD xs n) ids) : ids = wantL xs n xs.length := by
  refine sorted_ext h.1 ?_ fun x => ?_
  · unfold wantL
    rw [List.pairwise_map]
    refine List.Pairwise.imp (fun h => ?_) (List.Pairwise.sublist List.filter_sublist List.pairwise_lt_range)
    omega
  · rw [h.2]
    unfold wantL fD
    simp only [List.mem_map, List.mem_filter, List.mem_range, decide_eq_true_eq]
    constructor
    · intro e
      split at e
      · rename_i hc
        injection e with e
        exact ⟨x.toNat, ⟨by omega, by omega⟩, by omega⟩
      · cases e
    · rintro ⟨i, ⟨h1, h2⟩, rfl⟩
      rw [Int.toNat_natCast, if_pos (by omega)]
      congr 1
      omega
theorem Ints.keptM {w w' : World} {v : Value} {xs : List Int} {P : Program} {k e : TypeId} {b n : Nat} {f : Int → Option Int} (h : Ints w v xs) (hm : MapF P k e w b n f) (hg : w.grownBy w' (some b)) : Ints w' v xs := by
  obtain ⟨A, c, rfl, h1, h2, h3⟩ := h
  refine ⟨A, c, rfl, h1, h2, fun hne => ?_⟩
  obtain ⟨bb, o, e, hx⟩ := h3 hne
  refine ⟨bb, o, e, fun i hi => ?_⟩
  have hc := hx i hi
  have hne : bb ≠ b := by
    rintro rfl
    obtain ⟨D, ⟨es, clock, hb, _⟩, _⟩ := hm
    rw [show w.cell? ⟨bb, o + i, none⟩ = none by simp [World.cell?, hb]] at hc
    cases hc
  rw [World.cell?_of_block (w := w) (a := ⟨bb, o + i, none⟩) (hg.block bb (World.block_lt_of_cell? w ⟨bb, o + i, none⟩ hc) (fun e => hne (Option.some.inj e)))]
  exact hc
theorem timerDue_walk (v : Value) (xs : List Int) (w : World) (hv : Ints w v xs ∧ ∀ x ∈ xs, (Lit.int .i64 x).wf = true) :
    Calls Try.prog 6 #[v] w fun e w' => e = .returned (.bool true) ∧ Below w.heap.size w w' := by
  obtain ⟨hI, hwf⟩ := hv
  obtain ⟨A, c, e0, g1, g2, -⟩ := id hI
  subst e0
  unfold maxLen at g2
  have HWF := Lib.hid hwf
  clear hwf
  go_enter Try.func6, Try.ntmps6
  by_cases hlen : 40 < xs.length
  · go_wp2_with (fail)
    go_ret
    exact ⟨rfl, Below.refl _ _⟩
  · go_wp2_with (fail)
    refine (new_any w).mono ?_
    rintro e w2 ⟨tb, bm, rfl, hT, ht, hm2, hX2⟩
    rw [← fD_nil] at hT
    clear ht
    go_wp2_with (fail)
    go_loopw [4] (fun i wr => ∃ k : Nat, k ≤ xs.length ∧ i = .int .i64 k ∧ Hid (∀ j (h : j < xs.length), j < k → 0 ≤ xs[j] ∧ xs[j] ≤ 60) ∧ TmAt wr tb bm k (fD (xs.take k) 0) ∧ Ext w wr) (fun i _ => xs.length - (intOf i).toNat)
    case atStart => exact ⟨0, Nat.zero_le _, rfl, Lib.hid fun j _ h => absurd h (Nat.not_lt_zero j), hT, hX2⟩
    case round =>
      obtain ⟨k, hk, rfl, hr, hTk, hXk⟩ := hrel
      by_cases hlt : k < xs.length
      · obtain ⟨b, o, rfl, hx⟩ := hI.at hlt
        have hxx := hx wr hXk
        have HA := Lib.hid (fun h => fD_add (xs := xs) hlt h)
        have HR := Lib.hid (fun (h : 0 ≤ xs[k] ∧ xs[k] ≤ 60) => (fun j (hj : j < xs.length) (hjk : j < k + 1) => show 0 ≤ xs[j] ∧ xs[j] ≤ 60 by
          rcases Nat.lt_or_ge j k with h2 | h2
          · exact hr.out j hj h2
          · obtain rfl : j = k := by omega
            exact h))
        have hw := HWF.out _ (List.getElem_mem hlt)
        have HW := Lib.hid hw
        clear hx hw
        generalize xs[k] = x at hxx HA HR HW
        by_cases h1 : x < 0
        · go_wp2_with (fail)
          go_ret
          exact ⟨rfl, hXk.below⟩
        · by_cases h2 : 60 < x
          · go_wp2_with (fail)
            go_ret
            exact ⟨rfl, hXk.below⟩
          · obtain ⟨a1, a2⟩ := HA.out ⟨by omega, by omega⟩
            have HR2 := Lib.hid (HR.out ⟨by omega, by omega⟩)
            have hadd := add_any tb bm k (fD (xs.take k) 0) k x wr hTk (by omega) (wf_of (by omega)) HW.out
            rw [a1, a2] at hadd
            have HADD := Lib.hid hadd
            clear a1 a2 hadd hTk
            go_wp2_with (fail)
            refine HADD.out.mono ?_
            rintro e w3 ⟨rfl, hT3, hg3⟩
            have hX3 := hXk.grown hg3 (fun k e => by cases e; exact hm2)
            go_frame
            go_wp2_with (fail)
            exact ⟨⟨k + 1, hlt, rfl, HR2, hT3, hX3⟩, by simp [intOf]; omega⟩
      · obtain rfl : k = xs.length := by omega
        rw [List.take_length] at hTk
        go_wp2_with (fail)
        go_loopw [5] (fun i wr => ∃ n : Int, 0 ≤ n ∧ n ≤ 62 ∧ i = .int .i64 n ∧ TmAt wr tb bm xs.length (fD xs n) ∧ Ext w wr) (fun i _ => (62 - intOf i).toNat)
        case atStart => exact ⟨0, by decide, by decide, rfl, hTk, hXk⟩
        case round =>
          obtain ⟨n, n0, n1, rfl, hTn, hXn⟩ := hrel
          by_cases hlt : n ≤ 61
          · go_wp2_with (fail)
            go_loopw [6, 7] (fun v i w4 => ∃ k : Nat, k ≤ xs.length ∧ i = .int .i64 k ∧ RowP w4 wr.heap.size v (wantL xs n k) ∧ Ext wr w4) (fun _ i _ => xs.length - (intOf i).toNat)
            case atStart => exact ⟨0, Nat.zero_le _, rfl, OwnL.nil, Ext.refl _⟩
            case round =>
              obtain ⟨k, hk, rfl, hO, hXo⟩ := hrel
              obtain ⟨Ao, co, rfl⟩ := OwnL.slice2 hO
              have hwl := want_len xs n k
              by_cases hlt2 : k < xs.length
              · obtain ⟨b, o, rfl, hx⟩ := hI.at hlt2
                have hxx := hx wr (hXn.trans hXo)
                have HS := Lib.hid (want_step xs n k)
                rw [getD_at hlt2] at HS
                clear hx
                generalize xs[k] = x at hxx HS
                have hwr : IntKind.i64.wrap ((k : Int) + 1) = (k : Int) + 1 := by rw [IntKind.wrap_i64]; omega
                by_cases e : x = n
                · rw [if_pos e] at HS
                  have hb : (x == n) = true := by simpa using e
                  have hlo := OwnL.lt hO
                  clear e
                  have HLO := Lib.hid hlo
                  clear hlo
                  go_wp2_with (at_builtin; (refine wpList_push rfl _ _ 44 rfl _ 3 Try.underlying44 infoPI rfl (by decide) (by decide) encI (wantL xs n k) _ rfl (OwnL.alloc hO _) (k : Int) wr.heap.size #[.int .i64 k] 3 rfl (Blk.new _ _ _) rfl rfl (by simp [encI, Value.oneCell']) ?_ ?_ ?_; (· omega); (· have := hXo.size; simp; omega); (intro v2 w8 hown hg8 hloc _; obtain ⟨A2, c2, rfl⟩ := OwnL.slice2 hown)))
                  have hX8 := (hXo.alloc (.cells #[.int .i64 k] 3)).grown hg8 (fun j hj => (HLO.out j hj).1)
                  rw [List.length_append, List.length_singleton] at hown
                  exact ⟨⟨k + 1, hlt2, rfl, by rw [HS.out]; exact hown, hX8⟩, by simp [intOf]; omega⟩
                · rw [if_neg e] at HS
                  have hb : (x == n) = false := by simpa using e
                  clear e
                  go_wp2_with (fail)
                  exact ⟨⟨k + 1, hlt2, rfl, by rw [HS.out]; exact hO, hXo⟩, by simp [intOf]; omega⟩
              · obtain rfl : k = xs.length := by omega
                have hW := RowP.ints hO
                clear hO
                go_wp2_with (fail)
                refine (tick_any tb bm xs.length _ wr (hTn.ext hXo) (by omega) (fun x m h => fD_pos h)).mono ?_
                rintro e w5 ⟨v5, ids5, rfl, hD5, hR5, hT5, hg5⟩
                have hX5 := (hXn.trans hXo).grown hg5 (fun k e => by cases e; exact hm2)
                have hne := hTn.ext hXo
                have hbm : (Value.slice Ao (wantL xs n xs.length).length co).ownBlock ≠ some bm → True := fun _ => trivial
                obtain rfl := want_due hD5
                have hI5 := hR5.ints
                rw [fD_tick] at hT5
                have hW5 := hW.keptM hne.2 hg5
                clear hR5 hne hW hTn
                obtain ⟨A5, c5, e5, -⟩ := id hI5
                subst e5
                have hi9 := ints2_any _ _ _ _ w5 hI5 hW5
                rw [decide_eq_true rfl] at hi9
                have HI := Lib.hid hi9
                clear hi9
                generalize wantL xs n xs.length = ws at HI ⊢
                go_wp2_with (fail)
                refine HI.out.mono ?_
                rintro e w6 ⟨rfl, hb6⟩
                have hwr : IntKind.i64.wrap (n + 1) = n + 1 := by rw [IntKind.wrap_i64]; omega
                have hX6 := hX5.call hb6
                have hT6 := hT5.ext ⟨hb6⟩
                go_wp2_with (fail)
                exact ⟨⟨n + 1, by omega, by omega, rfl, hT6, hX6⟩, by simp [intOf]; omega⟩
          · obtain rfl : n = 62 := by omega
            go_wp2_with (fail)
            refine (left_nil 0 wr).mono ?_
            rintro e w5 ⟨rfl, rfl⟩
            go_wp2_with (fail)
            refine (add_nil 0 0 wr).mono ?_
            rintro e w5 ⟨rfl, rfl⟩
            go_wp2_with (fail)
            refine (drop_nil 0 wr).mono ?_
            rintro e w5 ⟨rfl, rfl⟩
            go_wp2_with (fail)
            refine (tick_nil wr).mono ?_
            rintro e w5 ⟨rfl, rfl⟩
            go_wp2_with (fail)
            refine (known22_any wr).mono ?_
            rintro e w6 ⟨rfl, hb6⟩
            go_wp2_with (fail)
            go_ret
            exact ⟨rfl, (hXn.call hb6).below⟩
end Go.Proofs.Ytenamokjbbiecaa
