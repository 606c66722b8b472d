/- law 25: a job that is not interrupted ends as many ticks behind its Start as it asks. -/
import Derived.Test.YtniejidekflmiaaDoorProg
import Derived.Test.YtniejidekflmiaaDoorBase
import Derived.Test.YtniejidekflmiaaDoorHeldX
import Derived.Test.YtniejidekflmiaaDoorHeldN
import Derived.Test.YtniejidekflmiaaDoorApp
import Derived.Test.YtniejidekflmiaaDoorExt0
import Derived.Test.YtniejidekflmiaaDoorChg
import Derived.Test.YtniejidekflmiaaDoorRowB
import Derived.Test.YtniejidekflmiaaDoorKM
import Derived.Test.YtniejidekflmiaaDoorKP1
import Derived.Test.YtniejidekflmiaaDoorKO
import Derived.Test.YtniejidekflmiaaDoorKW
import Derived.Test.YtniejidekflmiaaDoorOpenI
import Derived.Test.YtniejidekflmiaaDoorKker
import Derived.Test.YtniejidekflmiaaDoorTskZ
import Derived.Test.YtniejidekflmiaaDoorTskA
import Derived.Test.YtniejidekflmiaaDoorSetO
import Derived.Test.YtniejidekflmiaaDoorKch
import Derived.Test.YtniejidekflmiaaDoorEvO
import Derived.Test.YtniejidekflmiaaDoorKrn
import Derived.Deep.Cut
import Derived.Lib.Hide
import Derived.OwnWalk
import Derived.Maps.AppendAt
import Derived.BigQuiet
namespace Go.Proofs.YtniejidekflmiaaDoor
open Go.RowKit
attribute [local go_sem] setCell_twice ByteArray.toList_eq str_list Ext.alloc Ext.drew
set_option linter.unusedSimpArgs false
set_option linter.unusedVariables false
set_option maxRecDepth 100000
set_option maxHeartbeats 1600000
attribute [local irreducible] Calls

theorem infoInp : (Tryd.prog.info? 48).map (fun i => (i.zero, i.size, i.bytes)) = some (some (.agg #[.int .u64 0, .slice none 0 0, .int .u64 0]), 3, 40) := by kernel_rfl
theorem encInV_one (p : Value × Inp) (h : p.1.oneCell' = true) : ∀ u ∈ encInV p, u.oneCell' = true := by
  intro u hu
  simp only [encInV, List.mem_cons, List.not_mem_nil, or_false] at hu
  rcases hu with rfl | rfl | rfl
  · rfl
  · exact h
  · rfl
theorem sW_all {c : Nat} (h : 1 ≤ c ∧ c ≤ 40) : allB (sW (str [97]) c) = true := by
  have : ∀ n : Nat, n < 41 → n = 0 ∨ allB (sW (str [97]) n) = true := by decide +kernel
  rcases this c (by omega) with h1 | h1
  · omega
  · exact h1
theorem sW_fit {c : Nat} (h : 1 ≤ c ∧ c ≤ 40) : (sW (str [97]) c).fit := by
  refine ⟨rfl, by show 1 * 96 ≤ _; omega, fun t ht => ?_⟩
  obtain rfl : t = ⟨str [97], 200, 200, 0, 0, 0, [(c : Int), (c : Int)], 0, 0⟩ := by simpa [sW] using ht
  refine ⟨by show 1 ≤ _; omega, by show 2 * 8 ≤ _; omega, rfl, rfl, rfl, rfl, rfl, rfl, rfl, fun n hn => ?_⟩
  obtain rfl : n = (c : Int) := by simpa using hn
  show (decide ((-9223372036854775808 : Int) ≤ (c : Int)) && decide ((c : Int) ≤ 9223372036854775807)) = true
  rw [decide_eq_true (by omega), decide_eq_true (by omega)]
  rfl
theorem ints_two' {w : World} {g : Nat} {x y : Int} {e : TypeId} (hB : Blk w g #[.int .i64 x, .int .i64 y] e) : Ints w (.slice (some ⟨g, 0, none⟩) 2 2) [x, y] := by
  refine ⟨_, 2, rfl, Nat.le_refl _, by unfold maxLen; decide, fun _ => ⟨g, 0, rfl, fun i hi => ?_⟩⟩
  have hi0 : i = 0 ∨ i = 1 := by simp at hi; omega
  rcases hi0 with rfl | rfl
  · exact hB.cell 0
  · exact hB.cell 1
theorem inps_own {w : World} {base : Nat} {v : Value} {ps : List (Value × Inp)} (h : OwnL encInV w base 48 3 v ps) (hd : ∀ p ∈ ps, SlR DemR 1 Any w p.1 p.2.dems) : SlR InpR 3 Any w v (ps.map (·.2)) := by
  have := h.read (R := fun w b o p => InpR w b o p.2) (F := Any) (fun _ => rfl) (fun _ _ _ => trivial) (fun b o p hp hx => ⟨hx 0 _ rfl, ⟨p.1, hx 1 _ rfl, hd p hp⟩, hx 2 _ rfl⟩)
  obtain ⟨A, c, e, h1, h2, h3⟩ := this
  refine ⟨A, c, by rw [List.length_map]; exact e, by rw [List.length_map]; exact h1, h2, fun hne => ?_⟩
  obtain ⟨b, o, e, _, hx⟩ := h3 (fun e => hne (by rw [e]; rfl))
  exact ⟨b, o, e, trivial, fun i hi => by
    rw [List.length_map] at hi
    have := hx i hi
    rw [List.getElem_map]
    exact this⟩
theorem kernelWork_walk (c d e : Int) (w : World) (hc : (Lit.int .i64 c).wf = true) (hd : (Lit.int .i64 d).wf = true) (he : (Lit.int .i64 e).wf = true) (hG : G25 w) :
    Calls Tryd.prog 9 #[.int .i64 c, .int .i64 d, .int .i64 e] w fun e w' => e = .returned (.bool true) ∧ Below w.heap.size w w' := by
  cases d1 : decide (c < 1) with
  | true =>
    go_enter Tryd.func9, Tryd.ntmps9
    go_wp2_with (fail)
    go_ret
    exact ⟨rfl, Below.refl _ _⟩
  | false =>
  cases d2 : decide (40 < c) with
  | true =>
    go_enter Tryd.func9, Tryd.ntmps9
    go_wp2_with (fail)
    go_ret
    exact ⟨rfl, Below.refl _ _⟩
  | false =>
  cases d3 : decide (d < 1) with
  | true =>
    go_enter Tryd.func9, Tryd.ntmps9
    go_wp2_with (fail)
    go_ret
    exact ⟨rfl, Below.refl _ _⟩
  | false =>
  cases d4 : decide (c < d) with
  | true =>
    go_enter Tryd.func9, Tryd.ntmps9
    go_wp2_with (fail)
    go_ret
    exact ⟨rfl, Below.refl _ _⟩
  | false =>
  cases d5 : decide (e < 1) with
  | true =>
    go_enter Tryd.func9, Tryd.ntmps9
    go_wp2_with (fail)
    go_ret
    exact ⟨rfl, Below.refl _ _⟩
  | false =>
  cases d6 : decide (c < e) with
  | true =>
    go_enter Tryd.func9, Tryd.ntmps9
    go_wp2_with (fail)
    go_ret
    exact ⟨rfl, Below.refl _ _⟩
  | false =>
    have b1 := of_decide_eq_false d1
    have b2 := of_decide_eq_false d2
    have b3 := of_decide_eq_false d3
    have b4 := of_decide_eq_false d4
    have b5 := of_decide_eq_false d5
    have b6 := of_decide_eq_false d6
    obtain ⟨n, rfl⟩ := Int.eq_ofNat_of_zero_le (show 0 ≤ c by omega)
    have hn : 1 ≤ n ∧ n ≤ 40 := by omega
    obtain ⟨X, hX⟩ := work_events (str [97]) hn (d := d) (e := e) (by omega) (by omega)
    have HR := Lib.hid fun (v vl : Value) (W : World) (hv : Tasks W v (sW (str [97]) n).tasks) (hl : SlR InpR 3 Any W vl (inpsW n d e)) (h : G25 W) => runs25_any (sW (str [97]) n) v vl (inpsW n d e) W hv (sW_fit hn).good h.gok (sW_all hn) (kh_of (sW_all hn) (sW_fit hn)) hl (fun x hx => by
      rcases List.mem_cons.1 hx with rfl | hx
      · refine ⟨by simp, by simp, fun y hy z hz => ?_⟩
        obtain rfl : y = [d, e] := by simpa using hy
        rcases (show z = d ∨ z = e by simpa using hz) with rfl | rfl
        · exact hd
        · exact he
      · obtain rfl := List.eq_of_mem_replicate hx
        exact ⟨by decide, by decide, fun y hy => by cases hy⟩) (by simp [inpsW]; omega) h.db
    have hfew := runK_few (show (sW (str [97]) n).tasks.length ≤ 8 by simp [sW]) (inpsW n d e) (initK (sW (str [97]) n))
    have hev : eventsK (sW (str [97]) n) (inpsW n d e) = (runK (sW (str [97]) n) (inpsW n d e) (initK (sW (str [97]) n))).1 := rfl
    rw [← hev, hX] at hfew
    rw [hX] at HR
    have hlL : ([⟨0, 1, 0, 0⟩, ⟨0, 4, 0, 0⟩, ⟨d - 1, 7, 0, 0⟩, ⟨d + e - 1, 7, 0, 1⟩, ⟨d + e - 1, 8, 0, d + e⟩] ++ X : List Ev).length = 5 + X.length := by simp; omega
    have e2 : evAt ([⟨0, 1, 0, 0⟩, ⟨0, 4, 0, 0⟩, ⟨d - 1, 7, 0, 0⟩, ⟨d + e - 1, 7, 0, 1⟩, ⟨d + e - 1, 8, 0, d + e⟩] ++ X) 2 = ⟨d - 1, 7, 0, 0⟩ := rfl
    have e3 : evAt ([⟨0, 1, 0, 0⟩, ⟨0, 4, 0, 0⟩, ⟨d - 1, 7, 0, 0⟩, ⟨d + e - 1, 7, 0, 1⟩, ⟨d + e - 1, 8, 0, d + e⟩] ++ X) 3 = ⟨d + e - 1, 7, 0, 1⟩ := rfl
    have e4 : evAt ([⟨0, 1, 0, 0⟩, ⟨0, 4, 0, 0⟩, ⟨d - 1, 7, 0, 0⟩, ⟨d + e - 1, 7, 0, 1⟩, ⟨d + e - 1, 8, 0, d + e⟩] ++ X) 4 = ⟨d + e - 1, 8, 0, d + e⟩ := rfl
    generalize ([⟨0, 1, 0, 0⟩, ⟨0, 4, 0, 0⟩, ⟨d - 1, 7, 0, 0⟩, ⟨d + e - 1, 7, 0, 1⟩, ⟨d + e - 1, 8, 0, d + e⟩] ++ X : List Ev) = L at *
    have hL5 : 5 ≤ L.length := by omega
    have HE2 := Lib.hid e2
    have HE3 := Lib.hid e3
    have HE4 := Lib.hid e4
    have hGW := fun W (h : Ext w W) => hG.ext h
    have HG := Lib.hid hGW
    clear hGW hG hlL hev hX e2 e3 e4 hc hd he
    have hw2 : wrap64 (2 * (n : Int)) = 2 * n := by unfold wrap64; omega
    have hw3 : IntKind.i64.wrap (2 * (n : Int)) = 2 * n := by rw [IntKind.wrap_i64]; omega
    go_enter Tryd.func9, Tryd.ntmps9
    go_wp2_with (fail)
    generalize hW : World.alloc _ (.cells _ 24) = W
    have hXW : Ext w W := by rw [← hW]; exact (((Ext.refl w).alloc _).alloc _).alloc _
    have hI : Blk W w.heap.size #[.int .i64 n, .int .i64 n] 2 := by rw [← hW]; exact ((Blk.new _ _ _).alloc _).alloc _
    have hT : Blk W (w.heap.size + 1) #[.string (str [97]), .int .i64 200, .int .i64 200, .int .i64 0, .int .i64 0, .int .i64 0, .slice (some ⟨w.heap.size, 0, none⟩) 2 2, .int .u64 0, .int .u64 0] 45 := by rw [← hW]; exact (Blk.new_at _ _ _ _ (by simp)).alloc _
    have hS : Blk W (w.heap.size + 1 + 1) #[.int .i64 0, .slice (some ⟨w.heap.size + 1, 0, none⟩) 1 1] 24 := by rw [← hW]; exact Blk.new_at _ _ _ _ (by simp)
    have hv : Tasks W (.slice (some ⟨w.heap.size + 1, 0, none⟩) 1 1) (sW (str [97]) n).tasks := tasks_one' (t := ⟨str [97], 200, 200, 0, 0, 0, [(n : Int), (n : Int)], 0, 0⟩) hT (ints_two' hI)
    have HV := Lib.hid hv
    have hcS := hS.under
    clear hW hI hT hv
    go_loopw [8, 9] (fun v i wr => ∃ (k : Nat) (vo : Value), k ≤ 2 * n ∧ vo = v ∧ i = .int .i64 k ∧ OwnL encInV wr W.heap.size 48 3 vo (List.replicate k (.slice none 0 0, zI)) ∧ Ext W wr) (fun _ i _ => 2 * n - (intOf i).toNat)
    case atStart => exact ⟨0, _, by omega, rfl, rfl, OwnL.nil, Ext.refl W⟩
    case round =>
      obtain ⟨k, vo, hk, rfl, rfl, hO, hXr⟩ := hrel
      have hlen : (List.replicate k ((Value.slice none 0 0, zI) : Value × Inp)).length = k := by simp
      obtain ⟨Ao, co, e0, _, _⟩ := OwnL.form hO
      rw [hlen] at e0
      subst e0
      have HLEN := Lib.hid hlen
      have HO := Lib.hid hO
      clear hO hlen
      by_cases hlt : k < 2 * n
      · have hdl : decide ((k : Int) < 2 * (n : Int)) = true := decide_eq_true (by omega)
        have hrp : List.replicate (k + 1) ((Value.slice none 0 0, zI) : Value × Inp) = List.replicate k (.slice none 0 0, zI) ++ [(.slice none 0 0, zI)] := List.replicate_succ'
        have HRP := Lib.hid hrp
        clear hrp
        have hszW := hXW.size
        have hszr := hXr.size
        go_wp2_with (at_builtin; (refine wpList_push rfl _ _ 25 rfl W.heap.size 48 Tryd.underlying25 infoInp rfl (by decide) (by decide) encInV (List.replicate k (.slice none 0 0, zI)) _ rfl (OwnL.alloc HO.out _) (.slice none 0 0, zI) wr.heap.size #[.int .u64 0, .slice none 0 0, .int .u64 0] 48 rfl (Blk.new _ _ _) rfl rfl (encInV_one _ rfl) ?_ ?_ ?_; (· have := HLEN.out; omega); (· simp; omega); (intro v4 w4 hown hg hloc _)))
        exact ⟨⟨k + 1, _, by omega, rfl, rfl, by rw [HRP.out]; exact hown, (hXr.alloc _).grown hg (fun q hq => (OwnL.lt HO.out q hq).1)⟩, by simp [intOf]; omega⟩
      · have hdl : decide ((k : Int) < 2 * (n : Int)) = false := decide_eq_false (by omega)
        have hke : k = 2 * n := by omega
        have hkpos : 1 ≤ k := by omega
        have HKE := Lib.hid hke
        clear hke
        obtain ⟨g, cg, eg, hbg, cs, hBg⟩ := OwnL.some' HO.out (by rw [HLEN.out]; omega)
        obtain ⟨rfl, -, rfl⟩ := Value.slice.inj eg
        clear eg
        have hO9 := OwnL.alloc (OwnL.alloc HO.out (.cells #[.int .i64 d, .int .i64 e] 2)) (.cells #[.slice (some ⟨wr.heap.size, 0, none⟩) 2 2] 42)
        have hB9 := (hBg.alloc (.cells #[.int .i64 d, .int .i64 e] 2)).alloc (.cells #[.slice (some ⟨wr.heap.size, 0, none⟩) 2 2] 42)
        have hJ9 : Blk ((wr.alloc (.cells #[.int .i64 d, .int .i64 e] 2)).alloc (.cells #[.slice (some ⟨wr.heap.size, 0, none⟩) 2 2] 42)) wr.heap.size #[.int .i64 d, .int .i64 e] 2 := (Blk.new _ _ _).alloc _
        have hD9 : Blk ((wr.alloc (.cells #[.int .i64 d, .int .i64 e] 2)).alloc (.cells #[.slice (some ⟨wr.heap.size, 0, none⟩) 2 2] 42)) (wr.heap.size + 1) #[.slice (some ⟨wr.heap.size, 0, none⟩) 2 2] 42 := Blk.new_at _ _ _ _ (by simp)
        have hX9 := (hXr.alloc (.cells #[.int .i64 d, .int .i64 e] 2)).alloc (.cells #[.slice (some ⟨wr.heap.size, 0, none⟩) 2 2] 42)
        have hk0 : 0 < (List.replicate k ((Value.slice none 0 0, zI) : Value × Inp)).length := by rw [HLEN.out]; omega
        have hc0 := OwnL.cellAt hO9 (fun _ => rfl) hk0 (show 0 < 3 by omega)
        have hc1' := OwnL.cellAt hO9 (fun _ => rfl) hk0 (show 1 < 3 by omega)
        have hc2' := OwnL.cellAt hO9 (fun _ => rfl) hk0 (show 2 < 3 by omega)
        have hf := OwnL.freeAt hO9
        simp only [List.getElem_replicate, encInV, Nat.zero_mul, Nat.zero_add, List.getElem?_cons_zero, List.getElem?_cons_succ] at hc0 hc1' hc2'
        have HO9 := Lib.hid hO9
        have h1 := OwnL.stored hO9 (fun _ => rfl) (i := 0) (j := 0) (by omega) (u := .int .u64 1) (x' := (.slice none 0 0, ⟨1, [], 0⟩)) (fun _ => by simp [encInV, zI])
        have h2 := OwnL.stored h1 (fun _ => rfl) (i := 0) (j := 1) (by omega) (u := .slice (some ⟨wr.heap.size + 1, 0, none⟩) 1 1) (x' := (.slice (some ⟨wr.heap.size + 1, 0, none⟩) 1 1, ⟨1, [[d, e]], 0⟩)) (fun _ => by simp [encInV, zI])
        have h3 := OwnL.stored h2 (fun _ => rfl) (i := 0) (j := 2) (by omega) (u := .int .u64 0) (x' := (.slice (some ⟨wr.heap.size + 1, 0, none⟩) 1 1, ⟨1, [[d, e]], 0⟩)) (fun _ => by simp [encInV, zI])
        have hset : (((List.replicate k ((Value.slice none 0 0, zI) : Value × Inp)).set 0 (.slice none 0 0, ⟨1, [], 0⟩)).set 0 (.slice (some ⟨wr.heap.size + 1, 0, none⟩) 1 1, ⟨1, [[d, e]], 0⟩)).set 0 (.slice (some ⟨wr.heap.size + 1, 0, none⟩) 1 1, ⟨1, [[d, e]], 0⟩) = (.slice (some ⟨wr.heap.size + 1, 0, none⟩) 1 1, ⟨1, [[d, e]], 0⟩) :: List.replicate (k - 1) (.slice none 0 0, zI) := by
          obtain ⟨k', rfl⟩ : ∃ k', k = k' + 1 := ⟨k - 1, by omega⟩
          rw [List.replicate_succ]
          rfl
        rw [hset] at h3
        have hgl := hBg.lt
        have hJ10 := ((hJ9.far (p := ⟨g, 0 * 3 + 0, none⟩) (show wr.heap.size ≠ g by omega) (.int .u64 1)).far (p := ⟨g, 0 * 3 + 1, none⟩) (show wr.heap.size ≠ g by omega) (.slice (some ⟨wr.heap.size + 1, 0, none⟩) 1 1)).far (p := ⟨g, 0 * 3 + 2, none⟩) (show wr.heap.size ≠ g by omega) (.int .u64 0)
        have hD10 := ((hD9.far (p := ⟨g, 0 * 3 + 0, none⟩) (show wr.heap.size + 1 ≠ g by omega) (.int .u64 1)).far (p := ⟨g, 0 * 3 + 1, none⟩) (show wr.heap.size + 1 ≠ g by omega) (.slice (some ⟨wr.heap.size + 1, 0, none⟩) 1 1)).far (p := ⟨g, 0 * 3 + 2, none⟩) (show wr.heap.size + 1 ≠ g by omega) (.int .u64 0)
        have hX10 := ((hX9.set (g := g) (i := 0 * 3 + 0) hbg (.int .u64 1)).set (g := g) (i := 0 * 3 + 1) hbg (.slice (some ⟨wr.heap.size + 1, 0, none⟩) 1 1)).set (g := g) (i := 0 * 3 + 2) hbg (.int .u64 0)
        simp only [Nat.zero_mul, Nat.zero_add] at h3 hJ10 hD10 hX10
        have HLEN2 := HLEN
        clear h1 h2 hset hO9 hB9 hJ9 hD9 hX9 hgl
        go_upto_region 10 with (fail)
        generalize World.setCell _ _ _ = W10 at h3 hJ10 hD10 hX10 ⊢
        have hds : SlR DemR 1 Any W10 (.slice (some ⟨wr.heap.size + 1, 0, none⟩) 1 1) [[d, e]] := dems_blk (ds := [[d, e]]) (vs := [.slice (some ⟨wr.heap.size, 0, none⟩) 2 2]) hD10 rfl (by simp) (fun i h1 h2 => by
          obtain rfl : i = 0 := by simpa using h1
          exact ints_two' hJ10)
        have hin := inps_own h3 (fun p hp => by
          rcases List.mem_cons.1 hp with rfl | hp
          · exact hds
          · obtain rfl := List.eq_of_mem_replicate hp
            exact dems_none W10)
        have hle : ((Value.slice (some ⟨wr.heap.size + 1, 0, none⟩) 1 1, (⟨1, [[d, e]], 0⟩ : Inp)) :: List.replicate (k - 1) (Value.slice none 0 0, zI)).map (·.2) = inpsW n d e := by
          unfold inpsW
          rw [List.map_cons, List.map_replicate, HKE.out]
        rw [hle] at hin
        have hXW10 := hXW.trans hX10
        have hR := HR.out _ _ W10 (HV.out.ext hX10) hin (HG.out W10 hXW10)
        unfold setV at hR
        rw [show (sW (str [97]) (n : Int)).reload = 0 from rfl] at hR
        have hcs10 := hcS W10 hX10
        have HR2 := Lib.hid hR
        clear hR HR h3 hJ10 hD10 hds hin hle
        go_wp2_with (fail)
        refine HR2.out.mono ?_
        rintro e' W11 ⟨vo, rfl, hO11, hX11⟩
        clear hcs10
        obtain ⟨Al, cl, e0, _, _⟩ := OwnL.form hO11
        subst e0
        have HE := OwnL.evs hO11
        obtain ⟨bl, ol, rfl, hy2⟩ := HE.at (show 2 < L.length by omega)
        obtain ⟨bl', ol', e3', hy3⟩ := HE.at (show 3 < L.length by omega)
        obtain ⟨rfl, rfl⟩ : bl = bl' ∧ ol = ol' := by simpa using e3'
        obtain ⟨bl', ol', e4', hy4⟩ := HE.at (show 4 < L.length by omega)
        obtain ⟨rfl, rfl⟩ : bl = bl' ∧ ol = ol' := by simpa using e4'
        rw [HE2.out] at hy2
        rw [HE3.out] at hy3
        rw [HE4.out] at hy4
        obtain ⟨z20, z21, z22, z23⟩ := hy2 W11 (Ext.refl _)
        obtain ⟨z30, z31, z32, z33⟩ := hy3 W11 (Ext.refl _)
        obtain ⟨z40, z41, z42, z43⟩ := hy4 W11 (Ext.refl _)
        clear hy2 hy3 hy4 e3' e4' HE hO11
        dsimp only at z20 z21 z22 z23 z30 z31 z32 z33 z40 z41 z42 z43
        have q1 : wrap64 (d - 1) = d - 1 := by unfold wrap64; omega
        have q2 : wrap64 (d + e) = d + e := by unfold wrap64; omega
        have q3 : wrap64 (d + e - 1) = d + e - 1 := by unfold wrap64; omega
        have hl5 : decide ((L.length : Int) < 5) = false := decide_eq_false (by omega)
        go_wp2_with (fail)
        refine (known25_any W11 (HG.out W11 (hXW10.trans hX11))).mono ?_
        rintro e9 W12 ⟨rfl, hb12⟩
        go_wp2_with (fail)
        go_ret
        exact ⟨rfl, ((hXW10.trans hX11).call hb12).below⟩
end Go.Proofs.YtniejidekflmiaaDoor
