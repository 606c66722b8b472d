/- Caches: who touched each set last. -/
import Derived.Test.YtniejidekflmiaaGreatDoorProg
import Derived.Test.YtniejidekflmiaaGreatDoorBase
import Derived.Test.YtniejidekflmiaaGreatDoorHeldX
import Derived.Test.YtniejidekflmiaaGreatDoorApp
import Derived.Test.YtniejidekflmiaaGreatDoorExt0
import Derived.Test.YtniejidekflmiaaGreatDoorChg
import Derived.Test.YtniejidekflmiaaGreatDoorRowB
import Derived.Test.YtniejidekflmiaaGreatDoorKM
import Derived.Test.YtniejidekflmiaaGreatDoorKP1
import Derived.Test.YtniejidekflmiaaGreatDoorOpenI
import Derived.Test.YtniejidekflmiaaGreatDoorKbit
import Derived.Deep.Cut
import Derived.Lib.Hide
import Derived.OwnWalk
import Derived.Maps.AppendAt
import Derived.Deep.MidRow
import Derived.Laws.Bits64b
import Derived.Laws.Bits128
namespace Go.Proofs.YtniejidekflmiaaGreatDoor
open Go.RowKit
attribute [local go_sem] setCell_twice Ext.alloc Ext.drew
set_option linter.unusedSimpArgs false
set_option maxRecDepth 100000
set_option maxHeartbeats 400000
attribute [local irreducible] Calls

/-- a cache at gc -/
structure CacheAt (w : World) (gc : Nat) (own : List Int) : Prop where
  box : Blk w gc (own.map (Value.int .i64)).toArray 115
  len : own.length = 64
theorem CacheAt.ext {w w' : World} {gc : Nat} {own : List Int} (h : CacheAt w gc own) (hx : Ext w w') : CacheAt w' gc own := ⟨h.box.ext hx, h.len⟩
theorem CacheAt.chg {F : Nat → Prop} {w w' : World} {gc : Nat} {own : List Int} (h : CacheAt w gc own) (hx : Chg F w w') (h1 : ¬ F gc) : CacheAt w' gc own := ⟨h.box.chg hx h1, h.len⟩
theorem shl_one (i : Nat) (hi : i < 64) : bits BinOp.or IntKind.u64 0 (IntKind.u64.wrap (2 ^ i)) = ((2 ^ i : Nat) : Int) := by
  have h : 2 ^ i < 2 ^ 64 := Nat.pow_lt_pow_right (by decide) hi
  rw [show (2 ^ i : Int) = ((2 ^ i : Nat) : Int) by push_cast; rfl]
  generalize 2 ^ i = p at *
  rw [u64_nat (by omega), show (0 : Int) = ((0 : Nat) : Int) from rfl, bits_or_u64_nat _ _ (by omega) (by omega), Nat.zero_or]
theorem bits_is (i : Nat) (hi : i < 64) (w : World) :
    Calls Tryz.prog 127 #[.int .i64 i] w fun e w' => e = .returned (.bool true) ∧ w = w' := by
  go_enter Tryz.func127, Tryz.ntmps127
  go_wp2_with (fail)
  go_ret
  exact ⟨rb (by simp; omega), by first | trivial | rfl⟩
theorem bits_one (g i : Nat) (hi : i < 64) (w : World) (hc : w.cell? ⟨g, 0, none⟩ = some (.int .i64 i)) :
    Calls Tryz.prog 113 #[.slice (some ⟨g, 0, none⟩) 1 1] w fun e w' => e = .returned (.int .u64 ((2 ^ i : Nat) : Int)) ∧ w = w' := by
  have hI := bits_is i hi w
  have hS := shl_one i hi
  have HI := Lib.hid hI
  have HS := Lib.hid hS
  clear hI hS
  generalize hp : 2 ^ i = p at *
  go_enter Tryz.func113, Tryz.ntmps113
  go_wp2_with (fail)
  go_loopw [3, 8] (fun x k wr => wr = w ∧ ((k = .int .i64 0 ∧ x = .int .u64 0) ∨ (k = .int .i64 1 ∧ x = .int .u64 (p : Int)))) (fun _ k _ => 1 - (intOf k).toNat)
  case atStart => exact ⟨rfl, .inl ⟨rfl, rfl⟩⟩
  case round =>
    obtain ⟨rfl, ⟨rfl, rfl⟩ | ⟨rfl, rfl⟩⟩ := hrel
    · go_wp2_with (fail)
      refine HI.out.mono ?_
      rintro e w1 ⟨rfl, rfl⟩
      go_wp2_with (fail)
      exact ⟨⟨by trivial, .inr ⟨rfl, by rw [HS.out]⟩⟩, by decide⟩
    · go_wp2_with (fail)
      go_ret
      exact ⟨rfl, rfl⟩
/-- the sets among the first k that task i touched last -/
def heldP (own : List Int) (i : Int) (k : Nat) : Nat := (List.range k).foldl (fun x c => if own.getD c 0 = i + 1 then x ||| 2 ^ c else x) 0
theorem heldP_step (own : List Int) (i : Int) (k : Nat) : heldP own i (k + 1) = if own.getD k 0 = i + 1 then heldP own i k ||| 2 ^ k else heldP own i k := by
  unfold heldP
  rw [List.range_succ, List.foldl_append]
  rfl
theorem heldP_lt (own : List Int) (i : Int) (k : Nat) : heldP own i k < 2 ^ k := by
  induction k with
  | zero => simp [heldP]
  | succ k ih =>
    have h1 : 2 ^ (k + 1) = 2 ^ k * 2 := Nat.pow_succ ..
    rw [heldP_step]
    split
    · exact Nat.or_lt_two_pow (by omega) (by omega)
    · omega
theorem held_or (x k : Nat) (hk : k < 64) (hx : x < 2 ^ k) : bits BinOp.or IntKind.u64 (x : Int) (2 ^ k) = ((x ||| 2 ^ k : Nat) : Int) := by
  rw [show (2 ^ k : Int) = ((2 ^ k : Nat) : Int) by push_cast; rfl]
  have h : 2 ^ k < 2 ^ 64 := Nat.pow_lt_pow_right (by decide) hk
  exact bits_or_u64_nat _ _ (by omega) (by omega)
theorem cache_load {w : World} {gc : Nat} {own : List Int} (h : CacheAt w gc own) : w.rangeAt gc 0 (own.map (Value.int .i64)) ∧ (Tryz.prog.info? 94).map (·.size) = some (own.map (Value.int .i64)).length := by
  refine ⟨fun j v hv => ?_, ?_⟩
  · rw [h.box.cell, List.getElem?_toArray, Nat.zero_add]; exact hv
  · rw [List.length_map, h.len]; kernel_rfl
theorem cell_of_arr (l : List Value) (c : Nat) (v : Value) (w : World) (hn : l.length = 64) (h : l.toArray[c]? = some v) : (Instr.index 94 (.agg l.toArray) (.int .i64 c)).run Tryz.prog w = .ok v w := by
  have h2 : l[c]? = some v := by rw [← List.getElem?_toArray]; exact h
  obtain ⟨hc, rfl⟩ := List.getElem?_eq_some_iff.1 h2
  have h0 : (0 : Int) ≤ c := by omega
  have h1 : (c : Int) < 64 := by omega
  have h3 : ((c : Int)).toNat = c := by omega
  have h4 : l.length = 64 := hn
  simp [Instr.index, run_underlying Tryz.underlying94, asIntOf, go_sem, h0, h1, h3, hc]
  intro h; omega
theorem held_cache (gc i : Nat) (own : List Int) (w : World) (h : CacheAt w gc own) (hi : i < 8) :
    Calls Tryz.prog 70 #[.pointer (some ⟨gc, 0, none⟩), .int .i64 i] w fun e w' => e = .returned (.int .u64 (heldP own i 64)) ∧ Below w.heap.size w w' := by
  obtain ⟨hr, hi2⟩ := cache_load h
  have hL64 : Hid ((own.map (Value.int .i64)).length = 64) := by exact Lib.hid (by simp [h.len])
  have hat : ∀ k, k < 64 → (own.map (Value.int .i64)).toArray[k]? = some (.int .i64 (own.getD k 0)) := fun k hk => by
    rw [List.getElem?_toArray, List.getElem?_map, List.getElem?_eq_getElem (by rw [h.len]; exact hk), getD_at (by rw [h.len]; exact hk)]
    rfl
  have HA := Lib.hid hat
  clear hat
  generalize own.map (Value.int .i64) = l at *
  go_enter Tryz.func70, Tryz.ntmps70
  go_wp2_with (refine wpList_load_mid rfl 94 _ rfl gc 0 rfl l _ hr Tryz.underlying94 rfl hi2 ?_)
  go_loopw [5, 18] (fun x k wr => ∃ c : Nat, c ≤ 64 ∧ k = .int .i64 c ∧ x = .int .u64 (heldP own i c) ∧ Below w.heap.size w wr) (fun _ k _ => 64 - (intOf k).toNat)
  case atStart => exact ⟨0, by omega, rfl, rfl, Below.refl _ _⟩
  case round =>
    obtain ⟨c, hc, rfl, rfl, hL⟩ := hrel
    by_cases hlt : c < 64
    · have hcs := fun w => cell_of_arr l c _ w hL64.out (HA.out c hlt)
      have hst := heldP_step own i c
      have hor := held_or (heldP own i c) c hlt (heldP_lt own i c)
      generalize heldP own i c = x0 at *
      generalize own.getD c 0 = o at *
      have HO := Lib.hid hor
      have HS := Lib.hid hst
      clear hor hst
      by_cases hd : o = i + 1
      · have hdd : (o == (i : Int) + 1) = true := by simp [hd]
        have HE : heldP own i (c + 1) = x0 ||| 2 ^ c := by rw [HS.out, if_pos hd]
        go_wp2_with (fail)
        refine (bits_one wr.heap.size c hlt (wr.alloc (.cells #[.int .i64 c] 3)) ((Blk.new wr #[.int .i64 c] 3).cell 0)).mono ?_
        rintro e w1 ⟨rfl, rfl⟩
        go_wp2_with (fail)
        exact ⟨⟨c + 1, hlt, rfl, by rw [HE, HO.out], hL.alloc (by have := hL.size; omega) _⟩, by simp [intOf]; omega⟩
      · have hdd : (o == (i : Int) + 1) = false := by simp [hd]
        have HE : heldP own i (c + 1) = x0 := by rw [HS.out, if_neg hd]
        go_wp2_with (fail)
        exact ⟨⟨c + 1, hlt, rfl, by rw [HE], hL⟩, by simp [intOf]; omega⟩
    · obtain rfl : c = 64 := by omega
      go_wp2_with (fail)
      go_ret
      exact ⟨rfl, hL⟩
theorem heldP_all (own : List Int) (i : Int) : heldP own i 64 = heldO own i := rfl
theorem andnot_u64 (a b : Nat) (ha : a < 18446744073709551616) (hb : b < 18446744073709551616) : bits BinOp.andNot IntKind.u64 (a : Int) (b : Int) = ((a ^^^ (a &&& b) : Nat) : Int) := by
  have h1 : (BitVec.ofInt 64 (a : Int)).toNat = a := by
    rw [BitVec.ofInt_natCast, BitVec.toNat_ofNat]; exact Nat.mod_eq_of_lt (by omega)
  have h2 : (BitVec.ofInt 64 (b : Int)).toNat = b := by
    rw [BitVec.ofInt_natCast, BitVec.toNat_ofNat]; exact Nat.mod_eq_of_lt (by omega)
  have e : a &&& (2 ^ 64 - (b + 1)) = a ^^^ (a &&& b) := by
    apply Nat.eq_of_testBit_eq
    intro i
    rw [Nat.testBit_and, Nat.testBit_two_pow_sub_succ (by omega), Nat.testBit_xor, Nat.testBit_and]
    by_cases hi : i < 64
    · rw [decide_eq_true hi]
      cases a.testBit i <;> cases b.testBit i <;> rfl
    · have : a.testBit i = false := Nat.testBit_lt_two_pow (Nat.lt_of_lt_of_le (show a < 2 ^ 64 by omega) (Nat.pow_le_pow_right (by decide) (by omega)))
      rw [this]
      simp
  have hx : a ^^^ (a &&& b) < 2 ^ 64 := Nat.xor_lt_two_pow (by omega) (Nat.and_lt_two_pow _ (by omega))
  show IntKind.u64.wrap ((BitVec.ofInt 64 (a : Int) &&& ~~~ BitVec.ofInt 64 (b : Int)).toNat : Int) = _
  rw [BitVec.toNat_and, BitVec.toNat_not, h1, h2, show 2 ^ 64 - 1 - b = 2 ^ 64 - (b + 1) by omega, e, IntKind.wrap_u64]
  omega
theorem lost_cache (gc i had : Nat) (own : List Int) (w : World) (h : CacheAt w gc own) (hi : i < 8) (hh : had < 18446744073709551616) :
    Calls Tryz.prog 72 #[.pointer (some ⟨gc, 0, none⟩), .int .i64 i, .int .u64 had] w fun e w' => e = .returned (.int .u64 (lostO own i had)) ∧ Below w.heap.size w w' := by
  have hH := held_cache gc i own w h hi
  have hb := heldP_lt own i 64
  have hL := andnot_u64 had (heldP own i 64) hh hb
  have HL := Lib.hid hL
  have HH := Lib.hid hH
  clear hH hL
  go_enter Tryz.func72, Tryz.ntmps72
  go_wp2_with (fail)
  refine HH.out.mono ?_
  rintro e w1 ⟨rfl, hb⟩
  go_wp2_with (fail)
  go_ret
  exact ⟨by rw [HL.out, heldP_all]; rfl, hb⟩
/-- task i touches the sets below p -/
def touchQ (own : List Int) (v : Int) (x p : Nat) : List Int := (bitsL x p).foldl (fun o c => o.set c.toNat v) own
theorem touchQ_at (own : List Int) (v : Int) (x p : Nat) : (touchQ own v x p).length = own.length ∧ ∀ c, (touchQ own v x p)[c]? = (own[c]?).map fun o => if c < p ∧ x.testBit c = true then v else o := by
  induction p with
  | zero => exact ⟨rfl, fun c => by simp [touchQ, bitsL]⟩
  | succ k ih =>
    obtain ⟨h1, h2⟩ := ih
    cases hb : x.testBit k with
    | false =>
      have e : touchQ own v x (k + 1) = touchQ own v x k := by unfold touchQ; rw [bitsL_step, hb, cond_false]
      refine ⟨by rw [e]; exact h1, fun c => ?_⟩
      rw [e, h2]
      congr 1
      funext o
      by_cases hc : c = k
      · subst hc; rw [hb]; simp
      · have : (c < k + 1) = (c < k) := by simp only [eq_iff_iff]; omega
        simp only [this]
    | true =>
      have e : touchQ own v x (k + 1) = (touchQ own v x k).set k v := by unfold touchQ; rw [bitsL_step, hb, cond_true, List.foldl_append]; rfl
      refine ⟨by rw [e, List.length_set]; exact h1, fun c => ?_⟩
      rw [e, List.getElem?_set, h1]
      by_cases hc : k = c
      · subst hc
        rw [if_pos rfl]
        by_cases hl : k < own.length
        · rw [if_pos hl, List.getElem?_eq_getElem hl, Option.map_some, hb, if_pos ⟨by omega, rfl⟩]
        · rw [if_neg hl, List.getElem?_eq_none (by omega)]; rfl
      · rw [if_neg hc, h2]
        congr 1
        funext o
        have : (c < k + 1) = (c < k) := by simp only [eq_iff_iff]; omega
        simp only [this]
theorem touchQ_all (own : List Int) (i : Int) (x : Nat) (hl : own.length = 64) : touchQ own (i + 1) x 64 = touchO own i x := by
  apply List.ext_getElem?
  intro c
  rw [(touchQ_at own (i + 1) x 64).2]
  unfold touchO
  rw [List.getElem?_mapIdx]
  by_cases hc : c < own.length
  · rw [List.getElem?_eq_getElem hc, Option.map_some, Option.map_some]
    have : c < 64 := by omega
    simp [this]
  · rw [List.getElem?_eq_none (by omega)]; rfl
theorem CacheAt.put {w : World} {gc c : Nat} {own : List Int} (h : CacheAt w gc own) (v : Int) : CacheAt (w.setCell ⟨gc, c, none⟩ (.int .i64 v)) gc (own.set c v) := by
  refine ⟨?_, by rw [List.length_set]; exact h.len⟩
  have := Blk.set h.box c (.int .i64 v)
  rw [List.setIfInBounds_toArray, ← List.map_set] at this
  exact this
theorem OwnL.ints {w : World} {base : Nat} {v : Value} {xs : List Int} (h : OwnL encN w base 3 1 v xs) : Ints w v xs := by
  have := h.read (R := IntR .i64) (F := Any) (fun _ => rfl) (fun _ _ _ => trivial) (fun b o x _ hx => hx 0 _ rfl)
  obtain ⟨A, c, e, h1, h2, h3⟩ := this
  refine ⟨A, c, e, h1, h2, fun hne => ?_⟩
  obtain ⟨b, o, e, _, hx⟩ := h3 hne
  exact ⟨b, o, e, fun i hi => by have := hx i hi; rw [Nat.mul_one] at this; exact this⟩
theorem bitsL_at (x k : Nat) {i : Nat} (hi : i < (bitsL x k).length) : ∃ c : Nat, (bitsL x k)[i] = c ∧ c < k := by
  have h := List.getElem_mem hi
  unfold bitsL at h
  obtain ⟨c, hc, e⟩ := List.mem_map.1 h
  rw [List.mem_filter, List.mem_range] at hc
  exact ⟨c, e.symm, hc.1⟩
theorem touch_cache (gc i x : Nat) (own : List Int) (w : World) (h : CacheAt w gc own) (hD : DB w) (hi : i < 8) (hx : x < 18446744073709551616) :
    Calls Tryz.prog 74 #[.pointer (some ⟨gc, 0, none⟩), .int .i64 i, .int .u64 x] w fun e w' => e = .returned (.bool true) ∧ CacheAt w' gc (touchO own i x) ∧ Chg (fun q => q = gc) w w' := by
  have hB := bits_list x hx w hD
  have HE := Lib.hid (touchQ_all own i x h.len)
  have hgc := h.box.lt
  go_enter Tryz.func74, Tryz.ntmps74
  go_wp2_with (fail)
  refine hB.mono ?_
  rintro e w1 ⟨v, rfl, hO, hb⟩
  have hI := OwnL.ints hO
  obtain ⟨A, c, rfl⟩ := OwnL.slice hO
  have h1 := h.ext ⟨hb⟩
  have hlt0 := hO.lt
  clear hB
  have hat : ∀ (k : Nat) (hk : k < (bitsL x 64).length), ∃ (c : Nat), (bitsL x 64)[k] = c ∧ c < 64 := fun k hk => bitsL_at x 64 hk
  have hll := bitsL_le x 64
  unfold touchQ at HE
  generalize bitsL x 64 = l at *
  go_wp2_with (fail)
  go_loopw [18] (fun j wr => ∃ k : Nat, k ≤ l.length ∧ j = .int .i64 k ∧ CacheAt wr gc ((l.take k).foldl (fun o c => o.set c.toNat ((i : Int) + 1)) own) ∧ Chg (fun q => q = gc) w wr ∧ OwnL encN wr w.heap.size 3 1 (.slice A l.length c) l) (fun j _ => l.length - (intOf j).toNat)
  case atStart => exact ⟨0, by omega, rfl, h1, .of_below hb, hO⟩
  case round =>
    obtain ⟨k, hk, rfl, hC, hL, hO2⟩ := hrel
    by_cases hlt : k < l.length
    · obtain ⟨b, o, rfl, hx⟩ := (OwnL.ints hO2).at hlt
      obtain ⟨d, e, hd⟩ := hat k hlt
      have hx0 := hx wr (Ext.refl _)
      rw [e] at hx0
      have hf : wr.frozen? ⟨gc, d, none⟩ = false := Blk.free hC.box d
      have hc0 : ∃ u, wr.cell? ⟨gc, d, none⟩ = some u := by
        refine ⟨_, (hC.box.cell d).trans (Array.getElem?_eq_getElem ?_)⟩
        have := hC.len
        simp only [List.size_toArray, List.length_map, this]
        exact hd
      obtain ⟨u0, hc0⟩ := hc0
      have hne := own_ne_blk hO2 hC.box (by decide)
      have hput := hC.put (c := d) ((i : Int) + 1)
      have htk : ((l.take (k + 1)).foldl (fun o c => o.set c.toNat ((i : Int) + 1)) own) = ((l.take k).foldl (fun o c => o.set c.toNat ((i : Int) + 1)) own).set d ((i : Int) + 1) := by
        rw [List.take_add_one, List.foldl_append, List.getElem?_eq_getElem hlt, e]
        rfl
      have HT := Lib.hid htk
      have HP := Lib.hid hput
      have HO := Lib.hid hO2
      have HX := Lib.hid hC
      have hd0 : (0 : Int) ≤ (d : Int) := by omega
      have hd1 : (d : Int) < 64 := by omega
      clear hx e hat htk hput hO2 hO hI hC h1
      generalize hls : (l.take k).foldl (fun o c => o.set c.toNat ((i : Int) + 1)) own = own1 at *
      go_wp2_with (fail)
      exact ⟨⟨k + 1, hlt, rfl, by rw [HT.out]; exact HP.out, hL.set (.inl rfl) _, OwnL.set HO.out (a := ⟨gc, d, none⟩) hne _⟩, by simp [intOf]; omega⟩
    · obtain rfl : k = l.length := by omega
      rw [List.take_length] at hC
      go_wp2_with (fail)
      go_ret
      exact ⟨rfl, by rw [← HE.out]; exact hC, hL⟩
end Go.Proofs.YtniejidekflmiaaGreatDoor
