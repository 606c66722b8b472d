/- A kernel that runs through inputs; are inputs too long? -/
import Derived.Test.YtniejidekflmiaaGreatDoorProg
import Derived.Test.YtniejidekflmiaaGreatDoorBase
import Derived.Test.YtniejidekflmiaaGreatDoorHeldX
import Derived.Test.YtniejidekflmiaaGreatDoorHeldN
import Derived.Test.YtniejidekflmiaaGreatDoorApp
import Derived.Test.YtniejidekflmiaaGreatDoorExt0
import Derived.Test.YtniejidekflmiaaGreatDoorChg
import Derived.Test.YtniejidekflmiaaGreatDoorRowB
import Derived.Test.YtniejidekflmiaaGreatDoorKM
import Derived.Test.YtniejidekflmiaaGreatDoorKP1
import Derived.Test.YtniejidekflmiaaGreatDoorOpenI
import Derived.Test.YtniejidekflmiaaGreatDoorTskP
import Derived.Test.YtniejidekflmiaaGreatDoorTskA
import Derived.Test.YtniejidekflmiaaGreatDoorSetO
import Derived.Test.YtniejidekflmiaaGreatDoorKat
import Derived.Test.YtniejidekflmiaaGreatDoorKker
import Derived.Test.YtniejidekflmiaaGreatDoorKbit
import Derived.Test.YtniejidekflmiaaGreatDoorKtur
import Derived.Test.YtniejidekflmiaaGreatDoorKrun
import Derived.Test.YtniejidekflmiaaGreatDoorKch
import Derived.Test.YtniejidekflmiaaGreatDoorKnew
import Derived.Test.YtniejidekflmiaaGreatDoorEvO
import Derived.Test.YtniejidekflmiaaGreatDoorLex1
import Derived.Test.YtniejidekflmiaaGreatDoorKO
import Derived.Test.YtniejidekflmiaaGreatDoorTskZ
import Derived.Deep.Cut
import Derived.Lib.Hide
import Derived.OwnWalk
import Derived.Maps.AppendAt
import Derived.BigQuiet
import Derived.Test.YtniejidekflmiaaGreatDoorRows
import Derived.LaidMore
import Derived.Lib.LaidTab
import Derived.MakeChecks
import Derived.Stop.LaidErr
namespace Go.Proofs.YtniejidekflmiaaGreatDoor
open Go.RowKit
attribute [local go_sem] setCell_twice Ext.alloc Ext.drew
set_option linter.unusedSimpArgs false
set_option linter.unusedVariables false
set_option maxRecDepth 100000
set_option maxHeartbeats 1600000
attribute [local irreducible] Calls

theorem own_news {α : Type} {enc : α → List Value} {w : World} {base size n c : Nat} {e : TypeId} {A : Option Addr} {xs : List α} (h : OwnL enc w base e size (.slice A n c) xs) (hn : 0 < n) : ∃ b o, A = some ⟨b, o, none⟩ ∧ ∀ j u, (xs.flatMap enc)[j]? = some u → w.cell? ⟨b, o + j, none⟩ = some u := by
  rcases h.2 with ⟨hv, _⟩ | ⟨g, cap, cur, hv, _, hh, _, _, _, _⟩
  · obtain ⟨rfl, rfl, rfl⟩ := Value.slice.inj hv
    omega
  · obtain ⟨rfl, rfl, rfl⟩ := Value.slice.inj hv
    refine ⟨g, 0, rfl, fun j u hu => ?_⟩
    have := World.ownsRow.cells h (g := g) rfl j u hu
    rw [add_none] at this
    exact this
theorem cells_same {w w' : World} {b o : Nat} {v : Value} {B : Nat} (hB : w.heap.size ≤ B) (hs : ∀ q, q < B → w'.heap[q]? = w.heap[q]?) (h : w.cell? ⟨b, o, none⟩ = some v) : w'.cell? ⟨b, o, none⟩ = some v := by
  have hb : b < w.heap.size := World.block_lt_of_cell? w ⟨b, o, none⟩ h
  rw [World.cell?_of_block (w := w) (a := ⟨b, o, none⟩) (hs b (by omega))]
  exact h
theorem DemR.same {w w' : World} {b o : Nat} {xs : List Int} {B : Nat} (hB : w.heap.size ≤ B) (hs : ∀ q, q < B → w'.heap[q]? = w.heap[q]?) (h : DemR w b o xs) : DemR w' b o xs := by
  obtain ⟨r, h1, A, c, rfl, h2, h3, h4⟩ := h
  exact ⟨_, cells_same hB hs h1, A, c, rfl, h2, h3, fun hne => by
    obtain ⟨b', o', e, hx⟩ := h4 hne
    exact ⟨b', o', e, fun i hi => cells_same hB hs (hx i hi)⟩⟩
/-- a kernel stays as it is while a foreign row of events grows -/
theorem KAt.grows {b : KB} {B : Nat} {w w' : World} {s : TSet} {k : KS} {ev vo : Value} {os : List Ow} {P : List Ev} {base : Nat} (h : KAt b B w s k ev os) (hO : OwnL encEv w base 43 4 vo P) (hg : w.grownBy w' vo.ownBlock) (hne : ∀ q, vo.ownBlock = some q → ¬ foot b os ev q) : KAt b B w' s k ev os := by
  have hc : Chg (fun q => vo.ownBlock = some q) w w' := Chg.of_grown hg (fun k e => e)
  have hF : FT w (fun q => vo.ownBlock = some q) [43] := fun q hq => by
    obtain ⟨cs, hB⟩ := OwnL.block hO hq
    exact ⟨_, by simp, _, hB⟩
  exact { h with
    box := h.kBox hc hF rfl, tasks := h.kTasks hc hF rfl rfl, pol := h.kPol hc hF rfl rfl, cache := h.kCache hc hF rfl, tab := h.kTab hc hF rfl rfl, row := h.kRow hc hF rfl, jobs := h.kJobs hc hF rfl rfl, bas := Nat.le_trans h.bas hc.size, evs := OwnL.chg h.evs hc (fun q hq hf => hne q hf (.inr (.inr (.inr (.inr (.inr (.inl hq))))))) }
theorem foot_lt {b : KB} {B : Nat} {w : World} {s : TSet} {k : KS} {ev : Value} {os : List Ow} (h : KAt b B w s k ev os) {q : Nat} (hq : foot b os ev q) : q < w.heap.size := by
  obtain ⟨_, _, _, hB⟩ := h.footT q hq
  exact hB.lt
/-- the runner's state -/
structure RunS (s : TSet) (l : List Inp) (W0 wr : World) (b : KB) (m : Nat) (k : KS) (P : List Ev) (B : Nat) (ev : Value) (os : List Ow) (vo : Value) : Prop where
  le : m ≤ l.length
  run : RunAt s l m k P
  at' : KAt b B wr s k ev os
  has : HasP s k os
  low : ∀ q, foot b os ev q → W0.heap.size ≤ q
  out : OwnL encEv wr W0.heap.size 43 4 vo P
  apart : ∀ q, vo.ownBlock = some q → ¬ foot b os ev q
  ext : Ext W0 wr
theorem RunS.next {s : TSet} {l : List Inp} {W0 wr w5 w6 : World} {b : KB} {m : Nat} {k : KS} {P : List Ev} {B : Nat} {ev ev' : Value} {os os' : List Ow} {vo v6 : Value} (hs : KH s) (h : RunS s l W0 wr b m k P B ev os vo) (hm : m < l.length)
    (hK : KAt b wr.heap.size w5 s (stepK s k l[m]) ev' os') (hC : Chg (foot b os ev) wr w5) (hf : ∀ q, foot b os' ev' q → foot b os ev q ∨ wr.heap.size ≤ q) (hH : HasP s (stepK s k l[m]) os')
    (hown : w6.ownsRow W0.heap.size 43 4 v6 (P.length + (stepK s k l[m]).evs.length) (P.flatMap encEv ++ (stepK s k l[m]).evs.flatMap encEv)) (hg : w5.grownBy w6 vo.ownBlock) (hloc : v6.ownBlock = vo.ownBlock ∨ v6.ownBlock = some w5.heap.size) :
    RunS s l W0 w6 b (m + 1) (stepK s k l[m]) (P ++ (stepK s k l[m]).evs) wr.heap.size ev' os' v6 := by
  have hO5 : OwnL encEv w5 W0.heap.size 43 4 vo P := OwnL.chg h.out hC h.apart
  have hap : ∀ q, vo.ownBlock = some q → ¬ foot b os' ev' q := fun q hq hf2 => by
    rcases hf q hf2 with h1 | h1
    · exact h.apart q hq h1
    · have := (OwnL.lt h.out q hq).2; omega
  refine ⟨hm, h.run.next hs hm, hK.grows hO5 hg hap, hH, fun q hq => ?_, ?_, fun q hq hf2 => ?_, ?_⟩
  · rcases hf q hq with h1 | h1
    · exact h.low q h1
    · have := h.ext.size; omega
  · unfold OwnL
    rw [List.flatMap_append, List.length_append]
    exact hown
  · rcases hloc with h1 | h1
    · exact hap q (h1.symm.trans hq) hf2
    · rw [h1] at hq
      have := Option.some.inj hq
      have := foot_lt hK hf2
      omega
  · exact (h.ext.chg hC h.low).grown hg (fun q hq => (OwnL.lt h.out q hq).1)
theorem runs25_any (s : TSet) (v vl : Value) (l : List Inp) (w : World) (hv : Tasks w v s.tasks) (hg : s.good) (hG : GOK w) (hb : allB s = true) (hk : KH2 s) (hl : SlR InpR 3 Any w vl l) (ho : ∀ x ∈ l, x.ok) (hll : l.length ≤ 1000) (hD : DB w) :
    Calls Tryz.prog 8 #[setV s v, vl] w fun e w' => ∃ vo, e = .returned (.tuple #[vo, .bool true]) ∧ OwnL encEv w' w.heap.size 43 4 vo (eventsK s l) ∧ Ext w w' := by
  obtain ⟨A, c, rfl, hcc, hcm, hxx⟩ := id hv
  obtain ⟨Al, cl, rfl, hcl, hcm2⟩ := SlR.form hl
  clear hxx
  unfold maxLen at hcm hcm2
  have hX1 := (Ext.refl w).alloc (.cells #[.int .i64 s.reload, .slice A s.tasks.length c] 24)
  have hNew := new_ker s (.slice A s.tasks.length c) _ (hv.ext hX1) hg (hG.below hX1.below) hb hk.kh
  unfold setV at hNew ⊢
  have HNew := Lib.hid hNew
  have HL := Lib.hid hl
  clear hNew hv hl
  go_enter Tryz.func8, Tryz.ntmps8
  go_wp2_with (fail)
  refine HNew.out.mono ?_
  rintro e W ⟨b, rfl, ⟨ev, os, hK, ⟨hHP, _⟩, hft⟩, hX⟩
  have hS0 : RunS s l w W b 0 (initK s) [] _ ev os (.slice none 0 0) := ⟨Nat.zero_le _, RunAt.zero hk.kh l, hK, hHP, fun q hq => Nat.le_trans hX1.size (hft q hq), OwnL.nil, (fun q hq => by cases hq), hX1.trans hX⟩
  have HS0 := Lib.hid hS0
  clear hK hHP hft hS0
  go_wp2_with (fail)
  go_loopw [8, 9] (fun vo i wr => ∃ (m : Nat) (k : KS) (P : List Ev) (B : Nat) (ev : Value) (os : List Ow) (vo' : Value), vo' = vo ∧ i = .int .i64 m ∧ RunS s l w wr b m k P B ev os vo') (fun _ i _ => l.length - (intOf i).toNat)
  case atStart => exact ⟨0, _, _, _, ev, os, _, rfl, rfl, HS0.out⟩
  case round =>
    obtain ⟨m, k, P, B, ev1, os1, vo, rfl, rfl, hS⟩ := hrel
    have hm := hS.le
    by_cases hlt : m < l.length
    · obtain ⟨bi, oi, rfl, h1, ⟨vd, h2, h3⟩, h4⟩ := SlR.at HL.out hlt
      have hx0 := hS.ext.cell h1
      have hx1 := hS.ext.cell h2
      have hx2 := hS.ext.cell h4
      have hok := ho _ (List.getElem_mem hlt)
      have hsame : ∀ {w' : World}, Same (fun q => q < w.heap.size) wr w' → ∀ q, q < w.heap.size → w'.heap[q]? = w.heap[q]? := fun h q hq => (h q hq).trans (hS.ext.below.block q hq)
      have hst := step_any b B s k ev1 os1 P l[m] vd (fun q => q < w.heap.size) wr hk.kh hk.u hS.at' hS.run.inv hS.has hS.run.ok.link hS.run.ok.lo hS.run.ok.hi hok.1 hok.2.1 (fun q hq => Nat.lt_of_lt_of_le hq hS.ext.size) (fun q hq hl => by have := hS.low q hq; omega)
        (fun w' h => fun j hj => cells_same (Nat.le_refl _) (hsame h) (hD j hj)) (fun w' h => h3.to fun b' o' x hx => hx.same (Nat.le_refl _) (hsame h)) (by rw [hS.run.t]; omega) hk.q
      have hfew := hS.run.few hk.kh
      have hfew2 := stepK_few hk.kh.len.2 k l[m]
      have HNX := Lib.hid (fun (w5 w6 : World) (ev' v6 : Value) (os' : List Ow) => RunS.next (w5 := w5) (w6 := w6) (ev' := ev') (os' := os') (v6 := v6) hk.kh hS hlt)
      have HS := Lib.hid hS
      have HST := Lib.hid hst
      obtain ⟨Av, cv, rfl, _, _⟩ := OwnL.form HS.out.out
      clear hst hS hok h1 h2 h4 hsame
      generalize stepK s k l[m] = k' at *
      generalize l[m] = x at *
      go_wp2_with (fail)
      refine HST.out.mono ?_
      rintro e w5 ⟨ev', os', rfl, hK', hC', hf', hH'⟩
      have hO5 := OwnL.chg HS.out.out hC' HS.out.apart
      have hE' := hK'.evs
      obtain ⟨Ae, ce, rfl, _, _⟩ := OwnL.form hE'
      have hfl : (k'.evs.flatMap encEv).length = k'.evs.length * 4 := by rw [List.length_flatMap]; simp [encEv_len, List.map_const', Nat.mul_comm]
      have HFL := Lib.hid hfl
      have HO5 := Lib.hid hO5
      have HE' := Lib.hid hE'
      have hsz5 := hC'.size
      have hsz0 := HS.out.ext.size
      clear hfl hO5 hE'
      go_wp2_with (at_builtin; (refine wpList_append_row rfl _ _ 28 rfl w.heap.size 43 Tryz.underlying28 infoEv rfl (by decide) _ P.length (P.flatMap encEv) rfl HO5.out Ae k'.evs.length ce (k'.evs.flatMap encEv) rfl HFL.out ?_ ?_ ?_ ?_ ?_ ?_; (· exact own_news HE'.out); (· exact fun u hu => by obtain ⟨x, _, hx⟩ := List.mem_flatMap.1 hu; exact encEv_one x u hx); (· omega); (· unfold maxLen; omega); (· omega); (intro v6 w6 hown6 hg6 hloc6 _)))
      exact ⟨⟨m + 1, _, _, _, _, _, _, rfl, rfl, HNX.out _ _ _ _ _ hK' hC' hf' hH' hown6 hg6 hloc6⟩, by simp [intOf]; omega⟩
    · have hme : m = l.length := by omega
      subst hme
      have hall := hS.run.all
      have HS := Lib.hid hS
      clear hS
      go_wp2_with (fail)
      refine bodyPost_ret (v := .tuple #[vo, .bool true]) (by simp [results, Tryz.results8, go_sem, *]) rfl ⟨vo, rfl, ?_, HS.out.ext⟩
      rw [hall]
      exact HS.out.out
end Go.Proofs.YtniejidekflmiaaGreatDoor
/- What the laws of chapter 25 ask of the memory that the library lays. -/
namespace Go.Proofs.YtniejidekflmiaaGreatDoor
open Go.RowKit
structure G25 (w : World) : Prop where
  gok : GOK w
  db : DB w
theorem G25.ext {w w' : World} (h : G25 w) (hx : Ext w w') : G25 w' := ⟨h.gok.below hx.below, h.db.below hx.below⟩
set_option linter.unusedSimpArgs false
set_option maxRecDepth 100000 in
theorem G25.of_laid {W : World} (h : laidMetH Tryz.prog [("math/bits.deBruijn64tab", Rows.laid_math_bits_deBruijn64tab), ("unicode.White_Space", Rows.laid_unicode_White_Space), ("strings.asciiSpace", Rows.laid_strings_asciiSpace)] W) : G25 W := by
  rw [MakeChecks.laidMetH_plain _ _ _ (by kernel_rfl)] at h
  have h2 := laidMet.tail (laidMet.tail h)
  have e : (Rows.laid_strings_asciiSpace : DataW Unit) = Lib.tabData .u8 Lib.asciiSpaceTab := by kernel_rfl
  rw [e] at h2
  have e2 : (Rows.laid_math_bits_deBruijn64tab : DataW Unit) = Lib.tabData .u8 (Lib.deBruijn64tab.map fun (n : Nat) => (n : Int)) := by kernel_rfl
  rw [e2] at h
  refine ⟨Lib.tabIs_of_head (P := Tryz.prog) (g := 1) (by kernel_rfl) (by kernel_rfl) Tryz.underlying193 Tryz.underlying5 (by kernel_rfl) (by kernel_rfl) h2, fun k hk => ?_⟩
  have ht := Lib.tabIs_of_head (P := Tryz.prog) (g := 0) (by kernel_rfl) (by kernel_rfl) Tryz.underlying181 Tryz.underlying5 (by kernel_rfl) (by kernel_rfl) h
  have hl : (Lib.deBruijn64tab.map fun (n : Nat) => (n : Int)).length = 64 := by kernel_rfl
  rw [ht.cell (by kernel_rfl) k (by rw [hl]; exact hk)]
  congr 2
  simp only [List.getD, List.getElem?_map]
  have hk2 : k < Lib.deBruijn64tab.length := by rw [List.length_map] at hl; omega
  rw [List.getElem?_eq_getElem hk2]
  rfl
end Go.Proofs.YtniejidekflmiaaGreatDoor
/- law 25: are inputs too long? known. -/
namespace Go.Proofs.YtniejidekflmiaaGreatDoor
open Go.RowKit
attribute [local go_sem] setCell_twice ByteArray.toList_eq str_list Ext.alloc Ext.drew
set_option linter.unusedSimpArgs false
set_option linter.unusedVariables false
set_option maxRecDepth 100000
set_option maxHeartbeats 1600000
attribute [local irreducible] Calls

def longD (x : List Int) : Bool := decide (x.length > 20)
def longI (x : Inp) : Bool := decide (x.dems.length > 20) || x.dems.any longD
def longB (l : List Inp) : Bool := (l.take 300).any longI || decide (l.length > 250)
theorem longB_no {l : List Inp} (h : longB l = false) : l.length ≤ 250 := by
  unfold longB at h
  rw [Bool.or_eq_false_iff] at h
  have := of_decide_eq_false h.2
  omega
theorem any_step {α : Type} {p : α → Bool} {l : List α} {k : Nat} (hk : k < l.length) (h : (l.take k).any p = false) : (p l[k] = false → (l.take (k + 1)).any p = false) ∧ (∀ n, k < n → p l[k] = true → (l.take n).any p = true) := by
  refine ⟨fun h2 => ?_, fun n hn h2 => ?_⟩
  · rw [List.take_succ_eq_append_getElem hk, List.any_append, h]
    simp [h2]
  · rw [List.any_eq_true]
    exact ⟨l[k], List.mem_iff_getElem.2 ⟨k, by rw [List.length_take]; omega, by rw [List.getElem_take]⟩, h2⟩
theorem long_any (vl : Value) (l : List Inp) (w : World) (hl : SlR InpR 3 Any w vl l) :
    Calls Tryz.prog 7 #[vl] w fun e w' => e = .returned (.bool (longB l)) ∧ w = w' := by
  obtain ⟨Al, cl, rfl, hcl, hcm2⟩ := SlR.form hl
  unfold maxLen at hcm2
  have HL := Lib.hid hl
  obtain ⟨m, hm⟩ : ∃ m, longB l = m := ⟨_, rfl⟩
  rw [hm]
  have HM := Lib.hid hm
  clear hm hl
  have hend : ∀ k, k ≤ l.length → (l.take k).any longI = false → (k = 300 ∨ k = l.length ∧ k ≤ 300) → m = decide (l.length > 250) := fun k hk h h2 => by
    rw [← HM.out]
    unfold longB
    have e : (l.take 300).any longI = false := by
      rcases h2 with rfl | ⟨rfl, h3⟩
      · exact h
      · rw [List.take_of_length_le h3]; rwa [List.take_length] at h
    rw [e, Bool.false_or]
  have HEND := Lib.hid hend
  clear hend
  go_enter Tryz.func7, Tryz.ntmps7
  go_wp2_with (fail)
  go_loopw [3] (fun i wr => ∃ k : Nat, k ≤ l.length ∧ k ≤ 300 ∧ i = .int .i64 k ∧ Hid ((l.take k).any longI = false) ∧ w = wr) (fun i _ => l.length - (intOf i).toNat)
  case atStart => exact ⟨0, Nat.zero_le _, by omega, rfl, Lib.hid rfl, rfl⟩
  case round =>
    obtain ⟨k, hk, hk3, rfl, ht, rfl⟩ := hrel
    by_cases hlt : k < l.length
    · by_cases h3 : k < 300
      · obtain ⟨b, o, rfl, x0, ⟨vd, x1, hd⟩, x2⟩ := SlR.at HL.out hlt
        obtain ⟨h4, h5⟩ := any_step hlt ht.out
        have hI : longI l[k] = (decide (l[k].dems.length > 20) || l[k].dems.any longD) := rfl
        have H4 := Lib.hid h4
        have H5 := Lib.hid (fun h => h5 300 h3 h)
        have HI := Lib.hid hI
        clear h4 h5 hI
        obtain ⟨Ad, cd, rfl, hcd, hcd2⟩ := SlR.form hd
        unfold maxLen at hcd2
        have HD := Lib.hid hd
        clear hd x0 x2
        have hyes : longI l[k] = true → m = true := fun h => by
          rw [← HM.out]
          unfold longB
          rw [H5.out h, Bool.true_or]
        have HY := Lib.hid hyes
        clear hyes H5
        generalize l[k].dems = ds at *
        cases hd1 : decide (20 < (ds.length : Int)) with
        | true =>
          have hm := HY.out (by rw [HI.out, show decide (ds.length > 20) = true from decide_eq_true (by have := of_decide_eq_true hd1; omega)]; rfl)
          subst hm
          go_wp2_with (fail)
          go_ret
          exact ⟨rfl, rfl⟩
        | false =>
          have hd2 : ds.length ≤ 20 := by have := of_decide_eq_false hd1; omega
          go_wp2_with (fail)
          go_loopw [4] (fun i wr => ∃ j : Nat, j ≤ ds.length ∧ i = .int .i64 j ∧ Hid ((ds.take j).any longD = false) ∧ w = wr) (fun i _ => ds.length - (intOf i).toNat)
          case atStart => exact ⟨0, Nat.zero_le _, rfl, Lib.hid rfl, rfl⟩
          case round =>
            obtain ⟨j, hj, rfl, htj, rfl⟩ := hrel
            by_cases hltj : j < ds.length
            · obtain ⟨b', o', rfl, r, y0, hI0⟩ := SlR.at HD.out hltj
              obtain ⟨h4, h5⟩ := any_step hltj htj.out
              obtain ⟨Ar, cr, rfl, _, _, _⟩ := hI0
              rw [Nat.mul_one] at y0
              have H6 := Lib.hid h4
              have H7 := Lib.hid (h5 ds.length hltj)
              have hD0 : longD ds[j] = decide (ds[j].length > 20) := rfl
              clear h4 h5
              generalize ds[j] = z at *
              cases hz : decide (20 < (z.length : Int)) with
              | true =>
                have hz2 : longD z = true := by rw [hD0]; exact decide_eq_true (by have := of_decide_eq_true hz; omega)
                have h8 := H7.out hz2
                rw [List.take_length] at h8
                have hm := HY.out (by rw [HI.out, h8, Bool.or_true])
                subst hm
                clear hz2 h8
                go_wp2_with (fail)
                go_ret
                exact ⟨rfl, rfl⟩
              | false =>
                have hz2 : longD z = false := by rw [hD0]; exact decide_eq_false (by have := of_decide_eq_false hz; omega)
                have h8 := Lib.hid (H6.out hz2)
                clear hz2 hD0
                go_wp2_with (fail)
                exact ⟨⟨j + 1, hltj, rfl, h8, (by first | trivial | rfl)⟩, by simp [intOf]; omega⟩
            · have hje : j = ds.length := by omega
              subst hje
              have h8 := htj.out
              rw [List.take_length] at h8
              have h9 := Lib.hid (H4.out (by rw [HI.out, h8, show decide (ds.length > 20) = false from decide_eq_false (by omega)]; rfl))
              clear h8
              go_wp2_with (fail)
              exact ⟨⟨k + 1, hlt, by omega, rfl, h9, (by first | trivial | rfl)⟩, by simp [intOf]; omega⟩
      · have hk9 : k = 300 := by omega
        subst hk9
        have hm := HEND.out 300 hk ht.out (.inl rfl)
        go_wp2_with (fail)
        go_ret
        exact ⟨by rw [hm]; first | rfl | (simp; omega), rfl⟩
    · have hke : k = l.length := by omega
      subst hke
      have hm := HEND.out _ hk ht.out (.inr ⟨rfl, hk3⟩)
      go_wp2_with (fail)
      go_ret
      exact ⟨by rw [hm]; first | rfl | (simp; omega), rfl⟩
def kt25 : Tsk := ⟨str [97], 5, 5, 0, 0, 0, [2], 0, 0⟩
def kS25 : TSet := ⟨0, [kt25]⟩
def kI25 : List Inp := [⟨1, [[2]], 0⟩, ⟨0, [], 0⟩, ⟨0, [], 0⟩]
def kE25 : List Ev := [⟨0, 1, 0, 0⟩, ⟨0, 4, 0, 0⟩, ⟨1, 7, 0, 0⟩, ⟨1, 8, 0, 2⟩, ⟨2, 10, -1, 0⟩]
theorem kS25_all : allB kS25 = true := by decide +kernel
theorem kS25_fit : kS25.fit := by
  refine ⟨by decide, by decide, fun t ht => ?_⟩
  obtain rfl : t = kt25 := by simpa [kS25] using ht
  refine ⟨by decide, by decide, by decide, by decide, by decide, by decide, by decide, by decide, by decide, fun n hn => ?_⟩
  obtain rfl : n = 2 := by simpa [kt25] using hn
  decide
theorem kE25_eq : eventsK kS25 kI25 = kE25 := by decide +kernel
/-- a row of events in a block -/
theorem evs_blk {w : World} {g : Nat} {t : TypeId} {L : List Ev} (h : Blk w g (L.flatMap encEv).toArray t) (hl : L.length ≤ 1000) : Evs w (.slice (some ⟨g, 0, none⟩) L.length L.length) L := by
  refine ⟨_, _, rfl, Nat.le_refl _, by unfold maxLen; omega, fun _ => ⟨g, 0, rfl, trivial, fun i hi => ?_⟩⟩
  have hh := fun j (hj : j < 4) => RowBk.at (enc := encEv) (xs := L) h encEv_len hi hj
  rw [Nat.zero_add]
  exact ⟨by have := hh 0 (by omega); exact this, hh 1 (by omega), hh 2 (by omega), hh 3 (by omega)⟩
theorem ints_one' {w : World} {g : Nat} {x : Int} {e : TypeId} (hB : Blk w g #[.int .i64 x] e) : Ints w (.slice (some ⟨g, 0, none⟩) 1 1) [x] := by
  refine ⟨_, 1, rfl, Nat.le_refl _, by unfold maxLen; decide, fun _ => ⟨g, 0, rfl, fun i hi => ?_⟩⟩
  have hi0 : i = 0 := by simpa using hi
  subst hi0
  exact hB.cell 0
theorem tasks_one' {w : World} {g : Nat} {t : Tsk} {r : Value} {e : TypeId} (hT : Blk w g #[.string t.name, .int .i64 t.T, .int .i64 t.D, .int .i64 t.mode, .int .i64 t.q, .int .i64 t.theta, r, .int .u64 t.ecb, .int .u64 t.ucb] e) (hI : Ints w r t.regs) : Tasks w (.slice (some ⟨g, 0, none⟩) 1 1) [t] := by
  refine ⟨_, 1, rfl, Nat.le_refl _, by unfold maxLen; decide, fun _ => ⟨g, 0, rfl, fun i hi => ?_⟩⟩
  have hi0 : i = 0 := by simpa using hi
  subst hi0
  exact ⟨r, hI, hT.cell 0, hT.cell 1, hT.cell 2, hT.cell 3, hT.cell 4, hT.cell 5, hT.cell 6, hT.cell 7, hT.cell 8⟩
theorem dems_blk {w : World} {g : Nat} {t : TypeId} {vs : List Value} {ds : List (List Int)} (h : Blk w g vs.toArray t) (hl : vs.length = ds.length) (hs : ds.length ≤ 1000) (hd : ∀ i (h1 : i < vs.length) (h2 : i < ds.length), Ints w vs[i] ds[i]) : SlR DemR 1 Any w (.slice (some ⟨g, 0, none⟩) ds.length ds.length) ds := by
  refine ⟨_, _, rfl, Nat.le_refl _, by unfold maxLen; omega, fun _ => ⟨g, 0, rfl, trivial, fun i hi => ⟨vs[i]'(by omega), ?_, hd i (by omega) hi⟩⟩⟩
  rw [h.cell, Nat.zero_add, Nat.mul_one, List.getElem?_toArray, List.getElem?_eq_getElem (by omega)]
def encInV (p : Value × Inp) : List Value := [.int .u64 p.2.arrive, p.1, .int .u64 p.2.touch]
theorem inps_blk {w : World} {g : Nat} {t : TypeId} {ps : List (Value × Inp)} (h : Blk w g (ps.flatMap encInV).toArray t) (hs : ps.length ≤ 1000) (hd : ∀ p ∈ ps, SlR DemR 1 Any w p.1 p.2.dems) : SlR InpR 3 Any w (.slice (some ⟨g, 0, none⟩) ps.length ps.length) (ps.map (·.2)) := by
  refine ⟨_, _, by rw [List.length_map], by rw [List.length_map]; exact Nat.le_refl _, by unfold maxLen; omega, fun _ => ⟨g, 0, rfl, trivial, fun i hi => ?_⟩⟩
  have hi' : i < ps.length := by simpa using hi
  have hh := fun j (hj : j < 3) => RowBk.at (enc := encInV) (xs := ps) h (fun _ => rfl) hi' hj
  rw [Nat.zero_add, List.getElem_map]
  exact ⟨by have := hh 0 (by omega); exact this, ⟨(ps[i]).1, hh 1 (by omega), hd _ (List.getElem_mem hi')⟩, hh 2 (by omega)⟩
theorem dems_none (w : World) : SlR DemR 1 Any w (.slice none 0 0) [] := SlR.nil _ _ _ _
theorem ints_none (w : World) : Ints w (.slice none 0 0) [] := ⟨none, 0, rfl, Nat.le_refl _, Nat.zero_le _, fun h => absurd rfl h⟩
theorem evs_blk' {w : World} {g n : Nat} {t : TypeId} {L : List Ev} (h : Blk w g (L.flatMap encEv).toArray t) (hn : n = L.length) (hl : L.length ≤ 1000) : Evs w (.slice (some ⟨g, 0, none⟩) n n) L := by
  subst hn
  exact evs_blk h hl
theorem known25_any (w : World) (hG : G25 w) :
    Calls Tryz.prog 11 #[] w fun e w' => e = .returned (.bool true) ∧ Below w.heap.size w w' := by
  have HR := Lib.hid fun (v vl : Value) (W : World) (hv : Tasks W v kS25.tasks) (hl : SlR InpR 3 Any W vl kI25) (h : G25 W) => runs25_any kS25 v vl kI25 W hv kS25_fit.good h.gok kS25_all (kh_of kS25_all kS25_fit) hl (fun x hx => by
    simp only [kI25, List.mem_cons, List.not_mem_nil, or_false] at hx
    rcases hx with rfl | rfl | rfl <;> refine ⟨by decide, by decide, fun d hd z hz => ?_⟩
    · simp at hd; subst hd; simp at hz; subst hz; decide
    · simp at hd
    · simp at hd) (by decide) h.db
  rw [kE25_eq] at HR
  have hGW := fun W (h : Ext w W) => hG.ext h
  have HG := Lib.hid hGW
  clear hGW hG
  go_enter Tryz.func11, Tryz.ntmps11
  go_wp2_with (fail)
  generalize hW : World.alloc _ (.cells _ 57) = W
  have hX : Ext w W := by rw [← hW]; exact ((((((Ext.refl w).alloc _).alloc _).alloc _).alloc _).alloc _).alloc _
  have hI : Blk W w.heap.size #[.int .i64 2] 2 := by rw [← hW]; exact (((((Blk.new _ _ _).alloc _).alloc _).alloc _).alloc _).alloc _
  have hT : Blk W (w.heap.size + 1) #[.string (str [97]), .int .i64 5, .int .i64 5, .int .i64 0, .int .i64 0, .int .i64 0, .slice (some ⟨w.heap.size, 0, none⟩) 1 1, .int .u64 0, .int .u64 0] 38 := by rw [← hW]; exact ((((Blk.new_at _ _ _ _ (by simp)).alloc _).alloc _).alloc _).alloc _
  have hJ : Blk W (w.heap.size + 1 + 1 + 1) #[.int .i64 2] 2 := by rw [← hW]; exact ((Blk.new_at _ _ _ _ (by simp)).alloc _).alloc _
  have hD : Blk W (w.heap.size + 1 + 1 + 1 + 1) #[.slice (some ⟨w.heap.size + 1 + 1 + 1, 0, none⟩) 1 1] 35 := by rw [← hW]; exact (Blk.new_at _ _ _ _ (by simp)).alloc _
  have hN : Blk W (w.heap.size + 1 + 1 + 1 + 1 + 1) #[.int .u64 1, .slice (some ⟨w.heap.size + 1 + 1 + 1 + 1, 0, none⟩) 1 1, .int .u64 0, .int .u64 0, .slice none 0 0, .int .u64 0, .int .u64 0, .slice none 0 0, .int .u64 0] 57 := by rw [← hW]; exact Blk.new_at _ _ _ _ (by simp)
  have hv : Tasks W (.slice (some ⟨w.heap.size + 1, 0, none⟩) 1 1) kS25.tasks := tasks_one' (t := kt25) hT (ints_one' hI)
  have hds : SlR DemR 1 Any W (.slice (some ⟨w.heap.size + 1 + 1 + 1 + 1, 0, none⟩) 1 1) [[2]] := dems_blk (ds := [[2]]) (vs := [.slice (some ⟨w.heap.size + 1 + 1 + 1, 0, none⟩) 1 1]) hD rfl (by decide) (fun i h1 h2 => by
    obtain rfl : i = 0 := by simpa using h1
    exact ints_one' hJ)
  have hl : SlR InpR 3 Any W (.slice (some ⟨w.heap.size + 1 + 1 + 1 + 1 + 1, 0, none⟩) 3 3) kI25 := inps_blk (ps := [(.slice (some ⟨w.heap.size + 1 + 1 + 1 + 1, 0, none⟩) 1 1, ⟨1, [[2]], 0⟩), (.slice none 0 0, ⟨0, [], 0⟩), (.slice none 0 0, ⟨0, [], 0⟩)]) hN (by simp) (fun p hp => by
    simp only [List.mem_cons, List.not_mem_nil, or_false] at hp
    rcases hp with rfl | rfl | rfl
    · exact hds
    · exact dems_none W
    · exact dems_none W)
  have hR := HR.out _ _ W hv hl (HG.out W hX)
  unfold setV at hR
  have HR2 := Lib.hid hR
  clear hR HR hW hI hT hJ hD hN hv hds hl
  refine HR2.out.mono ?_
  rintro e w2 ⟨vo, rfl, hO, hX2⟩
  obtain ⟨Ao, co, rfl, _, _⟩ := OwnL.form hO
  have HO := Lib.hid hO
  clear hO
  go_wp2_with (fail)
  refine (sameEv_any _ _ kE25 kE25 _ (HO.out.evs.ext ((Ext.refl w2).alloc _)) (evs_blk' (Blk.new _ _ _) rfl (by decide))).mono ?_
  rintro e w3 ⟨rfl, hX3⟩
  rw [decide_eq_true rfl]
  go_wp2_with (fail)
  go_ret
  exact ⟨rfl, (((hX.trans hX2).alloc _).trans hX3).below⟩
end Go.Proofs.YtniejidekflmiaaGreatDoor
