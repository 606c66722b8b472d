/- Lemmas: audit: a map's keys, sorted; audit: Pending; Plain: what the audit reads off a run's events; audit: oldest, fair, Fair; audit: fair, Fair; audit: Fair; law 27: known; audit: Met; the document's Met. -/
import Derived.Test.YtlaflbepidkmnaaProg
import Derived.Test.YtlaflbepidkmnaaZd12
import Derived.Test.YtlaflbepidkmnaaKeys
import Derived.Test.YtlaflbepidkmnaaShelf
import Derived.Lib.SlKeysI
import Derived.Deep.Cut
import Derived.Lib.Hide
import Derived.OwnWalk
import Derived.Maps.OwnSet
import Derived.Maps.OwnOps
import Derived.BigQuiet
import Derived.Maps.RangeWalk
/- AuK -/
namespace Go.Proofs.Ytlaflbepidkmnaa
open Go Go.ChangeMaps Go.MapKept Go.WideShapes Go.Maps Go.RowKit Go.Sort Go.Shelf
set_option linter.unusedSimpArgs false
set_option linter.unusedVariables false
set_option maxRecDepth 100000
set_option maxHeartbeats 1600000
/-- a map of booleans: which keys it has (each with true) -/
def MapB (w : World) (b n : Nat) (f : Int → Bool) : Prop := ∃ D : DataW Unit, w.ownsMap Try.prog 3 (plainElem Try.prog 4) b n D ∧ ∀ x, Maps.has D (.int .i64 x) = f x
theorem mem_intKeys {H : Type} {P : Program} {k : TypeId} {R : Value → Option (DataW H × List MemPlace)} {w : World} {b n : Nat} {D0 : DataW H} (hown : w.ownsMap P k R b n D0) (K : Keyed P k) (hk : P.underlying k = some (.int .i64)) (x : Int) :
    x ∈ intKeys D0 ↔ has D0 (.int .i64 x) = true := by
  obtain ⟨es, rfl, hko⟩ := hown.keysOf
  have hk2 : ∀ p ∈ es, ∃ y, p.1 = .int .i64 y := fun p hp => by
    obtain ⟨v, hv⟩ := hko p hp
    obtain ⟨y, _, hy, _⟩ := Maps.keyOf_i64 hk hv
    exact ⟨y, hy⟩
  rw [has_eq, List.any_eq_true]
  show x ∈ es.map (fun p => Go.intOf p.1) ↔ _
  rw [List.mem_map]
  constructor
  · rintro ⟨p, hp, rfl⟩
    obtain ⟨a, ha⟩ := hk2 p hp
    exact ⟨p, hp, by rw [ha]; simp [Lit.sameKey, Go.intOf]⟩
  · rintro ⟨p, hp, hs⟩
    obtain ⟨a, ha⟩ := hk2 p hp
    rw [ha] at hs
    exact ⟨p, hp, by rw [ha]; simpa [Lit.sameKey, Go.intOf] using hs⟩
theorem sorts_keys (m : Nat) : AnyZI.SortsIn Try.prog Try.sortedA_ren Fence.wide m :=
  ⟨fun blk off cap ss W hH hblk hsz => callsIn_wide.2 (AnyM.slices_Sort_int Try.sortA blk off cap ss W hH hblk hsz),
   fun p cap W => callsIn_wide.2 (AnyM.slices_Sort_int_none Try.sortA p cap W)⟩
theorem keys_any (mb : Option Nat) (W : World) : Calls Try.prog 32 #[.map mb] W fun e w' => e = .returned (.func (.func 50) #[] #[.pointer (some ⟨W.heap.size, 0, none⟩)]) ∧ w' = W.alloc (.cells #[.map mb] 72) :=
  (callsIn_wide (n := 5)).1 (AnyZI.keys_in Try.keysA Fence.wide 5 trivial rfl mb W)
theorem sorted_keys (b nn : Nat) (D0 : DataW Unit) (R : Value → Option (DataW Unit × List MemPlace)) (w : World) (hown : w.ownsMap Try.prog 3 R b nn D0) (hmax : Maps.size D0 ≤ maxLen) (hbytes : Maps.size D0 * 8 ≤ 140737488355328) :
    Calls Try.prog 31 #[.func (.func 50) #[] #[.pointer (some ⟨w.heap.size, 0, none⟩)]] (w.alloc (.cells #[.map (some b)] 72)) fun e w' => ∃ (v : Value) (ss : List Int), e = .returned v ∧ ss.Perm (intKeys D0) ∧
      w'.ownsRow (w.alloc (.cells #[.map (some b)] 72)).heap.size 3 1 v ss.length ((ss.mergeSort (fun x y => decide (x ≤ y))).map encZ) ∧ (v = .slice none 0 0 ↔ ss = []) ∧ Below (w.alloc (.cells #[.map (some b)] 72)).heap.size (w.alloc (.cells #[.map (some b)] 72)) w' := by
  refine (callsIn_wide (n := 5)).1 ?_
  have hbl := hown.lt
  have hseq : SeqGives Fence.wide 2 Try.prog 50 #[.pointer (some ⟨w.heap.size, 0, none⟩)] encZ (fun ss => ss.Perm (intKeys D0)) (Maps.size D0) (w.alloc (.cells #[.map (some b)] 72)) :=
    AnyZI.keys_gives (ρ := Try.keysA_ren) { Try.keysA with } Fence.wide _ trivial rfl (by omega) w.heap.size b nn D0 _ (by simp) (by simp) (by
      obtain ⟨es, clock, hb, Ft, hs, hD⟩ := hown
      exact ⟨es, clock, (Below.heap_alloc _ _ b hbl).trans hb, Ft, hs, hD⟩)
  have cS := AnyZI.sorted_in Try.sortedA Fence.wide 5 trivial trivial trivial trivial rfl (by omega) (sorts_keys _) (enters_of Try.func49 (by kernel_rfl) rfl) 50 #[.pointer (some ⟨w.heap.size, 0, none⟩)] trivial (enters_of Try.func50 (by kernel_rfl) rfl) _ _ hmax hbytes _ hseq
  exact cS
def setB (f : Int → Bool) (x : Int) (v : Bool) : Int → Bool := fun y => if y = x then v else f y
section
variable {w w' : World} {b n : Nat} {f : Int → Bool}
theorem MapB.made (w : World) : MapB (w.alloc (.map #[] 0)) w.heap.size 0 fun _ => false := ⟨_, World.ownsMap_made w Try.prog 3 _, fun _ => rfl⟩
theorem MapB.mono (h : MapB w b n f) {n' : Nat} (hn : n ≤ n') : MapB w b n' f := by obtain ⟨D, h1, h2⟩ := h; exact ⟨D, h1.mono hn, h2⟩
theorem MapB.lt (h : MapB w b n f) : b < w.heap.size := by obtain ⟨D, h1, _⟩ := h; exact h1.lt
theorem MapB.grown {row : Option Nat} (h : MapB w b n f) (hg : w.grownBy w' row) (hne : some b ≠ row) : MapB w' b n f := by obtain ⟨D, h1, h2⟩ := h; exact ⟨D, h1.kept hg hne, h2⟩
theorem MapB.ext (h : MapB w b n f) (hx : Ext w w') : MapB w' b n f := by
  obtain ⟨D, h1, h2⟩ := h
  have hl := h1.lt
  obtain ⟨es, clock, hb, rest⟩ := h1
  exact ⟨D, ⟨es, clock, (hx.below.block b hl).trans hb, rest⟩, h2⟩
theorem MapB.ne_cell (h : MapB w b n f) {q o : Nat} {v : Value} (hc : w.cell? ⟨q, o, none⟩ = some v) : q ≠ b := by
  obtain ⟨D, ⟨es, clock, hb, _⟩, _⟩ := h
  rintro rfl
  simp [World.cell?, hb] at hc
theorem MapB.ne_own {α : Type} {enc : α → List Value} {base s : Nat} {et : TypeId} {v : Value} {xs : List α} (hm : MapB w b n f) (h : OwnL enc w base et s v xs) : v.ownBlock ≠ some b := by
  obtain ⟨D, ⟨es, clock, hb, _⟩, _⟩ := hm
  intro hk
  rcases h.2 with ⟨rfl, _⟩ | ⟨g', cap, cur, rfl, _, hh, _⟩
  · simp [Value.ownBlock] at hk
  · obtain rfl : g' = b := by simpa [Value.ownBlock] using hk
    rw [hh] at hb
    cases hb
variable {ops : Array Oper} {rest : List Oper} {o : Oper} {a : Act} {Q : Exit → Act → World → Prop}
theorem wpB_store (hg : o.guard = none) (m x v : Operand) (hop : o.op = Op.mapUpdate 72 m x v) (hm : a.eval m = .map (some b)) (h : MapB w b n f) (hn : n < maxLen) (i : Int) (hw : (Lit.int .i64 i).wf = true) (hx : a.eval x = .int .i64 i) (hv : a.eval v = .bool true)
    (hK : ∀ w', MapB w' b (n + 1) (setB f i true) → w.grownBy w' (some b) → wpList Try.prog ops Q rest (a.put o.dst undef) w') : wpList Try.prog ops Q (o :: rest) a w := by
  obtain ⟨D, h1, h2⟩ := h
  have hk := keyOf_int_mk Try.underlying3 hw
  have K := int_keyed (P := Try.prog) Try.underlying3
  refine wpList_mapUpdate_own w hg m x v 72 hop 3 4 K Try.underlying72 _ b n D hm h1 hn _ _ _ hx hv hk _ [] (plainElem_bool Try.underlying4 true) ?_
  intro w' h3 h4
  refine hK w' ⟨_, h3, fun y => ?_⟩ h4
  unfold setB
  split
  · rename_i e; subst e; exact has_put_same h1.isMap (K.key hk) _
  · rename_i e; rw [has_put_other (lit_ne e)]; exact h2 y
theorem wpB_del (hg : o.guard = none) (m x : Operand) (hop : o.op = Op.call { callee := Callee.builtin Builtin.delete, args := #[m, x], argTypes := #[72, 3] }) (hm : a.eval m = .map (some b)) (h : MapB w b n f) (i : Int) (hw : (Lit.int .i64 i).wf = true) (hx : a.eval x = .int .i64 i)
    (hK : ∀ w', MapB w' b n (setB f i false) → w.grownBy w' (some b) → wpList Try.prog ops Q rest (a.put o.dst (.tuple #[])) w') : wpList Try.prog ops Q (o :: rest) a w := by
  obtain ⟨D, h1, h2⟩ := h
  refine wpList_delete_own w hg m x 72 3 hop 4 (int_keyed Try.underlying3) Try.underlying72 _ b n D hm h1 _ _ hx (keyOf_int_mk Try.underlying3 hw) ?_
  intro w' h3 h4
  refine hK w' ⟨_, h3, fun y => ?_⟩ h4.grown
  unfold setB
  split
  · rename_i e; subst e; exact has_del_same
  · rename_i e; rw [has_del_other (lit_ne e)]; exact h2 y
end
/-- the keys of a map, sorted -/
theorem keysOf_any (b n : Nat) (f : Int → Bool) (w : World) (h : MapB w b n f) (hn : n ≤ 1000000000) :
    Calls Try.prog 31 #[.func (.func 50) #[] #[.pointer (some ⟨w.heap.size, 0, none⟩)]] (w.alloc (.cells #[.map (some b)] 72)) fun e w' => ∃ (v : Value) (ss : List Int), e = .returned v ∧ RowP w' w.heap.size v ss ∧ (∀ x, x ∈ ss ↔ f x = true) ∧ Ext w w' := by
  obtain ⟨D, h1, h2⟩ := h
  have hs := h1.size_le
  refine (sorted_keys b n D _ w h1 (by unfold maxLen; omega) (by omega)).mono ?_
  rintro e w' ⟨v, ss, rfl, hp, hrow, _, hb⟩
  refine ⟨v, ss.mergeSort (fun x y => decide (x ≤ y)), rfl, ?_, fun x => ?_, ((Ext.refl w).alloc _).call hb⟩
  · have e1 : ((ss.mergeSort (fun x y => decide (x ≤ y))).map encZ) = (ss.mergeSort (fun x y => decide (x ≤ y))).flatMap encI := by
      generalize ss.mergeSort (fun x y => decide (x ≤ y)) = l
      induction l with
      | nil => rfl
      | cons x l ih => rw [List.map_cons, ih, List.flatMap_cons]; rfl
    unfold RowP OwnL
    rw [List.length_mergeSort, ← e1]
    exact ownsRow_base_a hrow (by simp)
  · rw [List.mem_mergeSort, hp.mem_iff, mem_intKeys h1 (int_keyed Try.underlying3) Try.underlying3, h2]
end Go.Proofs.Ytlaflbepidkmnaa
/- AuP -/
namespace Go.Proofs.Ytlaflbepidkmnaa
open Go.RowKit
attribute [local go_sem] setCell_twice ByteArray.toList_eq str_list Ext.alloc Ext.drew
set_option linter.unusedSimpArgs false
set_option linter.unusedVariables false
set_option maxRecDepth 100000
set_option maxHeartbeats 1600000
attribute [local irreducible] Calls

def admS (f : Int → Bool) (x : List Ev) : Int → Bool := x.foldl (fun f e => if e.kind = 1 then setB f e.task true else f) f
def endS (f : Int → Bool) (x : List Ev) : Int → Bool := x.foldl (fun f e => if endB e = true then setB f e.task false else f) f
def penF (M : List (List Ev)) : List (Int → Bool) × (Int → Bool) := M.foldl (fun p x => (p.1 ++ [admS p.2 x], endS (admS p.2 x) x)) ([], fun _ => false)
theorem penF_snoc (l : List (List Ev)) (x : List Ev) : penF (l ++ [x]) = ((penF l).1 ++ [admS (penF l).2 x], endS (admS (penF l).2 x) x) := by
  unfold penF
  rw [List.foldl_append]; rfl
theorem penF_len (l : List (List Ev)) : (penF l).1.length = l.length := by
  have : ∀ n, n ≤ l.length → (penF (l.take n)).1.length = n := by
    intro n
    induction n with
    | zero => intro _; rfl
    | succ n ih =>
      intro hn
      rw [List.take_succ_eq_append_getElem (by omega), penF_snoc, List.length_append, ih (by omega)]; rfl
  have := this l.length (Nat.le_refl _)
  rwa [List.take_length] at this
/-- reading under changes of a map -/
theorem Evs.keep {w w' : World} {b n : Nat} {f : Int → Bool} {v : Value} {L : List Ev} (h : Evs w v L) (hm : MapB w b n f) (hc : Chg (fun q => q = b) w w') : Evs w' v L :=
  SlR.to h fun b' o x hx => ⟨cell_chg hx.1 hc (hm.ne_cell hx.1), cell_chg hx.2.1 hc (hm.ne_cell hx.2.1), cell_chg hx.2.2.1 hc (hm.ne_cell hx.2.2.1), cell_chg hx.2.2.2 hc (hm.ne_cell hx.2.2.2)⟩
theorem EvsR.keep {w w' : World} {b n : Nat} {f : Int → Bool} {M : List (List Ev)} {v : Value} (h : SlR EvsR 1 Any w v M) (hm : MapB w b n f) (hc : Chg (fun q => q = b) w w') : SlR EvsR 1 Any w' v M :=
  SlR.to h fun b' o x ⟨r, hr, hx⟩ => ⟨r, cell_chg hr hc (hm.ne_cell hr), hx.keep hm hc⟩
/-- who has a job, as a row of numbers -/
def PenV (w : World) (v : Value) (f : Int → Bool) : Prop := ∃ ss base, RowP w base v ss ∧ ∀ x, x ∈ ss ↔ f x = true
theorem PenV.ext {w w' : World} {v : Value} {f : Int → Bool} (h : PenV w v f) (hx : Ext w w') : PenV w' v f := by
  obtain ⟨ss, base, h1, h2⟩ := h
  exact ⟨ss, base, OwnL.below h1 hx.below, h2⟩
theorem PenV.keep {w w' : World} {b n : Nat} {g : Int → Bool} {v : Value} {f : Int → Bool} (h : PenV w v f) (hm : MapB w b n g) (hc : Chg (fun q => q = b) w w') : PenV w' v f := by
  obtain ⟨ss, base, h1, h2⟩ := h
  exact ⟨ss, base, OwnL.chg h1 hc (fun q hq e => hm.ne_own h1 (by rw [hq, e])), h2⟩
/-- the answer so far -/
structure PenI (w : World) (base : Nat) (v : Value) (vs : List Value) (fs : List (Int → Bool)) : Prop where
  row : OwnL enc1 w base 40 1 v vs
  len : vs.length = fs.length
  each : ∀ i (h1 : i < vs.length) (h2 : i < fs.length), PenV w vs[i] fs[i]
theorem PenI.ext {w w' : World} {base : Nat} {v : Value} {vs : List Value} {fs : List (Int → Bool)} (h : PenI w base v vs fs) (hx : Ext w w') : PenI w' base v vs fs :=
  ⟨OwnL.below h.row hx.below, h.len, fun i h1 h2 => (h.each i h1 h2).ext hx⟩
theorem PenI.keep {w w' : World} {b n base : Nat} {g : Int → Bool} {v : Value} {vs : List Value} {fs : List (Int → Bool)} (h : PenI w base v vs fs) (hm : MapB w b n g) (hc : Chg (fun q => q = b) w w') : PenI w' base v vs fs :=
  ⟨OwnL.chg h.row hc (fun q hq e => hm.ne_own h.row (by rw [hq, e])), h.len, fun i h1 h2 => (h.each i h1 h2).keep hm hc⟩
theorem PenV.grownO {w w' : World} {v : Value} {f : Int → Bool} {base : Nat} {vo : Value} {vs : List Value} (h : PenV w v f) (hO : OwnL enc1 w base 40 1 vo vs) (hg : w.grownBy w' vo.ownBlock) : PenV w' v f := by
  obtain ⟨ss, b2, h1, h2⟩ := h
  exact ⟨ss, b2, OwnL.grown h1 hg (fun q hq e => own_types h1 hO (by decide) q hq e), h2⟩
theorem PenI.push {w w' : World} {base : Nat} {v v' u : Value} {vs : List Value} {fs : List (Int → Bool)} {g : Int → Bool} (h : PenI w base v vs fs) (hu : PenV w u g) (hown : OwnL enc1 w' base 40 1 v' (vs ++ [u])) (hg : w.grownBy w' v.ownBlock) : PenI w' base v' (vs ++ [u]) (fs ++ [g]) := by
  refine ⟨hown, by rw [List.length_append, List.length_append, h.len]; rfl, fun i h1 h2 => ?_⟩
  by_cases hi : i < vs.length
  · rw [List.getElem_append_left hi, List.getElem_append_left (by rw [← h.len]; exact hi)]
    exact (h.each i hi (by rw [← h.len]; exact hi)).grownO h.row hg
  · rw [List.length_append, List.length_singleton] at h1
    have hie : i = vs.length := by omega
    subst hie
    have e1 : (vs ++ [u])[vs.length] = u := by simp
    have e2 : (fs ++ [g])[vs.length] = g := by simp [h.len]
    rw [e1, e2]
    exact hu.grownO h.row hg
theorem infoInts1 : (Try.prog.info? 40).map (fun i => (i.zero, i.size, i.bytes)) = some (some (.slice none 0 0), 1, 24) := by kernel_rfl
theorem pending_au (va : Value) (L : List Ev) (n : Nat) (w : World) (ha : Evs w va L) (hn : n ≤ 1000) (hl : L.length ≤ 1000000) (hin : ∀ e ∈ L, evIn0 e) (hin2 : ∀ e ∈ L, -1 ≤ e.task ∧ e.task < 8) :
    Calls Try.prog 16 #[va, .int .i64 n] w fun r w' => ∃ v vs, r = .returned v ∧ PenI w' w.heap.size v vs (penF ((List.range n).map (tickL L))).1 ∧ Ext w w' := by
  obtain ⟨Ae, ce, rfl, hce1, hce2⟩ := ha.form
  have hT := fun W (hx : Ext w W) => ticks_au (.slice Ae L.length ce) L n W (ha.ext hx) hn hl hin
  have HT := Lib.hid hT
  have hTLen : ((List.range n).map (tickL L)).length = n := by simp
  have hMin : ∀ x ∈ (List.range n).map (tickL L), x.length ≤ L.length ∧ ∀ e ∈ x, -1 ≤ e.task ∧ e.task < 8 := fun x hx => by
    obtain ⟨t, _, rfl⟩ := List.mem_map.1 hx
    exact ⟨List.length_filter_le _ _, fun e he => hin2 e (List.mem_filter.1 he).1⟩
  have hmm := @run_makeMap Try.prog
  clear ha hin hT hin2
  go_enter Try.func16, Try.ntmps16
  go_wp2_with (fail)
  have hX1 := (Ext.refl w).alloc (.map #[] 0)
  have hMp := MapB.made w
  generalize w.alloc _ = W1 at hX1 hMp ⊢
  refine (HT.out W1 hX1).mono ?_
  rintro _ W ⟨vt, rfl, hR, hX⟩
  have hMW := hMp.ext hX
  have hbl := hMp.lt
  generalize hb : w.heap.size = b at *
  generalize hMe : (List.range n).map (tickL L) = M at *
  have HME := Lib.hid hMe
  obtain ⟨At, ct, rfl, htc1, htc2⟩ := SlR.form hR
  unfold maxLen at htc2
  have HR := Lib.hid hR
  have HM := Lib.hid hTLen
  have HMI := Lib.hid hMin
  have HMW := Lib.hid hMW
  have HB := Lib.hid hb
  have hXW := hX1.trans hX
  have HXW := Lib.hid hXW
  clear hR hTLen hMin hmm hMe hMW hMp HT hb hXW
  go_wp2_with (fail)
  go_loopw [5, 8, 10, 12, 18] (fun v5 _ _ _ v18 wr => ∃ (k m : Nat) (f : Int → Bool) (vs : List Value), k ≤ M.length ∧ v18 = .int .i64 k ∧ Hid ((penF (M.take k)).2 = f) ∧ PenI wr W.heap.size v5 vs (penF (M.take k)).1 ∧ MapB wr b m f ∧ m ≤ k * 1000000 ∧ Chg (fun q => q = b) W wr) (fun _ _ _ _ v18 _ => M.length - (intOf v18).toNat)
  case atStart => exact ⟨0, 0, fun _ => false, [], Nat.zero_le _, rfl, Lib.hid rfl, ⟨OwnL.nil, rfl, fun i h _ => by cases h⟩, HMW.out, Nat.zero_le _, Chg.refl _ _⟩
  case round =>
    obtain ⟨k, m, f, vs, hk, rfl, hf, hP, hMr, hm, hC⟩ := hrel
    by_cases hlt : k < M.length
    · obtain ⟨bt, o, rfl, r, hr, hEv⟩ := SlR.at HR.out hlt
      rw [Nat.mul_one] at hr
      have hr0 := cell_chg hr hC (HMW.out.ne_cell hr)
      obtain ⟨Ar, cr, rfl, hrc1, hrc2⟩ := hEv.form
      unfold maxLen at hrc2
      have hmi := HMI.out _ (List.getElem_mem hlt)
      have hsn := penF_snoc (M.take k) M[k]
      rw [← List.take_succ_eq_append_getElem hlt, hf.out] at hsn
      have hln := penF_len (M.take k)
      have hkn : k ≤ 1000 := by have := HM.out; omega
      have HSN := Lib.hid hsn
      have HEV := Lib.hid hEv
      have HMI2 := Lib.hid hmi
      have HLN := Lib.hid (show vs.length ≤ 1000 by rw [hP.len, hln, List.length_take]; omega)
      clear hEv hsn hln hmi hr
      generalize M[k] = x at *
      generalize (penF (M.take k)).1 = fs at *
      obtain ⟨Ao, co, rfl, _, _⟩ := OwnL.form hP.row
      have HP := Lib.hid hP
      have HMR := Lib.hid hMr
      have HCR := Lib.hid hC
      clear hP hMr hC
      go_wp2_with (fail)
      go_loopw [10, 24] (fun _ v24 w2 => ∃ (j m2 : Nat) (g : Int → Bool), j ≤ x.length ∧ v24 = .int .i64 j ∧ Hid (admS f (x.take j) = g) ∧ MapB w2 b m2 g ∧ m2 ≤ m + j ∧ Chg (fun q => q = b) wr w2) (fun _ v24 _ => x.length - (intOf v24).toNat)
      case atStart => exact ⟨0, m, f, Nat.zero_le _, rfl, Lib.hid rfl, HMR.out, by omega, Chg.refl _ _⟩
      case round =>
        obtain ⟨j, m2, g, hj, rfl, hg, hM2, hm2, hC2⟩ := hrel
        by_cases hjlt : j < x.length
        · obtain ⟨b3, o3, rfl, hxj⟩ := (Evs.keep HEV.out HMW.out (HCR.out.trans hC2)).at hjlt
          obtain ⟨y0, y1, y2, y3⟩ := hxj wr (Ext.refl _)
          rw [evAt_in hjlt] at y0 y1 y2 y3
          have hs2 : admS f (x.take (j + 1)) = if x[j].kind = 1 then setB g x[j].task true else g := by
            rw [List.take_succ_eq_append_getElem hjlt]
            unfold admS at hg ⊢
            rw [List.foldl_append, hg.out]; rfl
          have HS2 := Lib.hid hs2
          have hte := HMI2.out.2 _ (List.getElem_mem hjlt)
          have hxl := HMI2.out.1
          clear hs2 hxj
          generalize x[j] = e at *
          have wa : (Lit.int .i64 e.task).wf = true := wf64 (by omega) (by omega)
          go_upto_region 9 with (fail)
          have hX5 := (Ext.refl wr).alloc (.cells #[.int .i64 e.tick, .int .i64 e.kind, .int .i64 e.task, .int .i64 e.n] 60)
          have hB5 := Blk.new wr #[.int .i64 e.tick, .int .i64 e.kind, .int .i64 e.task, .int .i64 e.n] 60
          generalize wr.alloc _ = W5 at hX5 hB5 ⊢
          generalize wr.heap.size = ge at hB5 ⊢
          have hce0 := hB5.cell
          have hM5 := hM2.ext hX5
          have hC5 := hC2.ext hX5
          cases h1 : (e.kind == 1) with
          | false =>
            have hs := HS2.out
            rw [if_neg (by simpa using h1)] at hs
            have HS3 := Lib.hid hs
            clear hs
            go_wp2_with (fail)
            exact ⟨⟨j + 1, m2, g, hjlt, rfl, HS3, hM5, by omega, hC5⟩, by simp [intOf]; omega⟩
          | true =>
            have hs := HS2.out
            rw [if_pos (by simpa using h1)] at hs
            have HS3 := Lib.hid hs
            clear hs
            go_wp2_with (at_mapUpdate; refine wpB_store rfl _ _ _ rfl rfl hM5 (by unfold maxLen; omega) e.task wa rfl rfl ?_; intro w6 hM6 hg6)
            exact ⟨⟨j + 1, m2 + 1, _, hjlt, rfl, HS3, hM6, by omega, hC5.trans (Chg.of_grown hg6 (fun q e => (Option.some.inj e).symm))⟩, by simp [intOf]; omega⟩
        · have hje : j = x.length := by omega
          subst hje
          have hg3 := hg.out
          rw [List.take_length] at hg3
          have HG3 := Lib.hid hg3
          have hP2 := HP.out.keep HMR.out hC2
          have HP2 := Lib.hid hP2
          have hC3 := HCR.out.trans hC2
          have HC3 := Lib.hid hC3
          have hm1 : m2 ≤ 1000000000 := by
            have h1 := HMI2.out.1
            have h2 := HM.out
            have h3 : k * 1000000 ≤ 1000 * 1000000 - 1000000 := by omega
            omega
          have hKO := keysOf_any b m2 g wr hM2 hm1
          have HKO := Lib.hid hKO
          have HM2 := Lib.hid hM2
          clear hg3 hP2 hC3 hKO hM2 hC2
          go_wp2_with (fail)
          refine (keys_any _ _).mono ?_
          rintro _ w5 ⟨rfl, rfl⟩
          go_wp2_with (fail)
          refine HKO.out.mono ?_
          rintro _ w6 ⟨v6, ss, rfl, hrow, hmem, hX6⟩
          obtain ⟨A6, c6, rfl, _, _⟩ := OwnL.form hrow
          have hP6 := HP2.out.ext hX6
          have hsz6 := (HC3.out.ext hX6).size
          have HRW := Lib.hid hrow
          have HPV : PenV w6 (.slice A6 ss.length c6) g := ⟨ss, _, hrow, hmem⟩
          clear hrow
          go_wp2_with (at_builtin; (refine wpList_push rfl _ _ 42 rfl W.heap.size 40 Try.underlying42 infoInts1 rfl (by decide) (by decide) enc1 vs _ rfl (OwnL.alloc hP6.row _) (.slice A6 ss.length c6) w6.heap.size #[.slice A6 ss.length c6] 40 rfl (Blk.new _ _ _) rfl rfl (by simp [enc1, Value.oneCell']) ?_ ?_ ?_; (· have := HLN.out; omega); (· simp; omega); (intro v7 w7 hown7 hg7 hloc7 _)))
          have hX7 : Ext wr (w6.alloc (.cells #[.slice A6 ss.length c6] 40)) := hX6.alloc _
          have hP7 := (HP2.out.ext hX7).push (HPV.ext ((Ext.refl w6).alloc _)) hown7 hg7
          have hM7 := (HM2.out.ext hX7).grown hg7 (fun e => (HM2.out.ext hX7).ne_own (HP2.out.ext hX7).row e.symm)
          have hC7 : Chg (fun q => q = b) W w7 := (HC3.out.ext hX7).grown hg7 (fun q e hlt2 => by
            have := (OwnL.lt (HP2.out.ext hX7).row q e).1
            omega)
          have hO7 := hown7
          obtain ⟨A7, c7, e7⟩ := own_slice hown7
          generalize (vs ++ [Value.slice A6 ss.length c6]).length = n7 at e7
          subst e7
          have hpl := hP7.len
          have HP7 := Lib.hid hP7
          have HM7 := Lib.hid hM7
          have HC7 := Lib.hid hC7
          clear hP7 hM7 hC7 hown7 hO7 hg7 hloc7 hP6 hX7 hpl
          go_wp2_with (fail)
          go_loopw [12, 43] (fun _ v43 w2 => ∃ (j : Nat), ∃ (g2 : Int → Bool), j ≤ x.length ∧ v43 = .int .i64 j ∧ Hid (endS g (x.take j) = g2) ∧ MapB w2 b m2 g2 ∧ Chg (fun q => q = b) w7 w2) (fun _ v43 _ => x.length - (intOf v43).toNat)
          case atStart => exact ⟨0, g, Nat.zero_le _, rfl, Lib.hid rfl, HM7.out, Chg.refl _ _⟩
          case round =>
            obtain ⟨j, g2, hj, rfl, hg2, hM8, hC8⟩ := hrel
            by_cases hjlt : j < x.length
            · obtain ⟨b3, o3, rfl, hxj⟩ := (Evs.keep HEV.out HMW.out (HC7.out.trans hC8)).at hjlt
              obtain ⟨y0, y1, y2, y3⟩ := hxj wr (Ext.refl _)
              rw [evAt_in hjlt] at y0 y1 y2 y3
              have hs2 : endS g (x.take (j + 1)) = if endB x[j] = true then setB g2 x[j].task false else g2 := by
                rw [List.take_succ_eq_append_getElem hjlt]
                unfold endS at hg2 ⊢
                rw [List.foldl_append, hg2.out]; rfl
              have HS2 := Lib.hid hs2
              have hte := HMI2.out.2 _ (List.getElem_mem hjlt)
              clear hs2 hxj
              generalize x[j] = e at *
              have wa : (Lit.int .i64 e.task).wf = true := wf64 (by omega) (by omega)
              go_upto_region 16 with (fail)
              have hX5 := (Ext.refl wr).alloc (.cells #[.int .i64 e.tick, .int .i64 e.kind, .int .i64 e.task, .int .i64 e.n] 60)
              have hB5 := Blk.new wr #[.int .i64 e.tick, .int .i64 e.kind, .int .i64 e.task, .int .i64 e.n] 60
              generalize wr.alloc _ = W5 at hX5 hB5 ⊢
              generalize wr.heap.size = ge at hB5 ⊢
              have hce0 := hB5.cell
              have HB5 := Lib.hid hB5
              clear hB5
              go_wp2_with (fail)
              refine (ends_au e W5).mono ?_
              rintro _ w9 ⟨rfl, hX9⟩
              have hM9 := hM8.ext (hX5.trans hX9)
              have hC9 := hC8.ext (hX5.trans hX9)
              have hc9 := (HB5.out.ext hX9).cell
              clear hce0
              cases hE : endB e with
              | false =>
                have hs := HS2.out
                rw [hE, if_neg (by simp)] at hs
                have HS3 := Lib.hid hs
                clear hs
                go_wp2_with (fail)
                exact ⟨⟨j + 1, g2, hjlt, rfl, HS3, hM9, hC9⟩, by simp [intOf]; omega⟩
              | true =>
                have hs := HS2.out
                rw [hE, if_pos rfl] at hs
                have HS3 := Lib.hid hs
                clear hs
                go_wp2_with (at_delete; refine wpB_del rfl _ _ rfl rfl hM9 e.task wa rfl ?_; intro w10 hM10 hg10)
                exact ⟨⟨j + 1, _, hjlt, rfl, HS3, hM10, hC9.trans (Chg.of_grown hg10 (fun q e => (Option.some.inj e).symm))⟩, by simp [intOf]; omega⟩
            · have hje : j = x.length := by omega
              subst hje
              have hg4 := hg2.out
              rw [List.take_length] at hg4
              have hPe := HP7.out.keep HM7.out hC8
              have hCe := HC7.out.trans hC8
              have hsn := HSN.out
              rw [HG3.out, hg4] at hsn
              have HSN2 := Lib.hid hsn
              have hxl := HMI2.out.1
              clear hsn hg4
              go_wp2_with (fail)
              exact ⟨⟨k + 1, m2, g2, _, hlt, rfl, by rw [HSN2.out]; exact Lib.hid rfl, by rw [HSN2.out]; exact hPe, hM8, by omega, hCe⟩, by simp [intOf]; omega⟩
    · have hke : k = M.length := by omega
      subst hke
      rw [List.take_length] at hP
      obtain ⟨Ao, co, rfl, _, _⟩ := OwnL.form hP.row
      have HP := Lib.hid hP
      have hXf : Ext w wr := HXW.out.chg hC (fun q e => by have := HB.out; omega)
      clear hP
      go_wp2_with (fail)
      go_ret
      exact ⟨_, vs, rfl, by rw [HME.out, HB.out]; exact ⟨OwnL.lower HP.out.row (by have := HXW.out.size; have := HB.out; omega), HP.out.len, HP.out.each⟩, hXf⟩
end Go.Proofs.Ytlaflbepidkmnaa
/- AuN -/
namespace Go.Proofs.Ytlaflbepidkmnaa
set_option linter.unusedSimpArgs false
set_option linter.unusedVariables false

theorem endK {e : Ev} : endB e = true ↔ e.kind = 8 ∨ e.kind = 9 := by simp [endB]
/-- what happened, in its order -/
def sinB (f : Int → Bool) (e : Ev) : Int → Bool := if e.kind = 1 then setB f e.task true else if endB e = true then setB f e.task false else f
theorem setB_at (f : Int → Bool) (x y : Int) (v : Bool) : setB f x v y = if y = x then v else f y := rfl
theorem sin_since (P : List Ev) : ∀ (E : List Ev), (fun i => (sinceL (P ++ E) i).isSome) = E.foldl sinB fun i => (sinceL P i).isSome := by
  intro E
  have : ∀ n, n ≤ E.length → (fun i => (sinceL (P ++ E.take n) i).isSome) = (E.take n).foldl sinB fun i => (sinceL P i).isSome := by
    intro n
    induction n with
    | zero => intro _; simp
    | succ n ih =>
      intro hn
      rw [List.take_succ_eq_append_getElem (by omega), List.foldl_append, ← ih (by omega), ← List.append_assoc]
      funext i
      rw [since_snoc]
      show _ = sinB _ _ i
      unfold sinB
      by_cases h1 : E[n].kind = 1
      · rw [if_pos h1, if_pos h1, setB_at]
        by_cases h2 : E[n].task = i
        · rw [if_pos h2, if_pos h2.symm]; rfl
        · rw [if_neg h2, if_neg (fun h => h2 h.symm)]
      · rw [if_neg h1, if_neg h1]
        by_cases h3 : endB E[n] = true
        · rw [if_pos h3, setB_at, if_pos (endK.1 h3)]
          by_cases h2 : E[n].task = i
          · rw [if_pos h2, if_pos h2.symm]; rfl
          · rw [if_neg h2, if_neg (fun h => h2 h.symm)]
        · rw [if_neg h3, if_neg (fun h => h3 (endK.2 h))]
          split <;> rfl
  have := this E.length (Nat.le_refl _)
  rwa [List.take_length] at this
theorem adm_append (f : Int → Bool) (X Y : List Ev) : admS f (X ++ Y) = admS (admS f X) Y := by unfold admS; rw [List.foldl_append]
theorem end_append (f : Int → Bool) (X Y : List Ev) : endS f (X ++ Y) = endS (endS f X) Y := by unfold endS; rw [List.foldl_append]
theorem adm_none {Y : List Ev} (h : ∀ e ∈ Y, e.kind ≠ 1) (f : Int → Bool) : admS f Y = f := by
  unfold admS
  induction Y generalizing f with
  | nil => rfl
  | cons e Y ih =>
    rw [List.foldl_cons, if_neg (h e List.mem_cons_self)]
    exact ih (fun e he => h e (List.mem_cons_of_mem _ he)) f
theorem end_none {Y : List Ev} (h : ∀ e ∈ Y, endB e = false) (f : Int → Bool) : endS f Y = f := by
  unfold endS
  induction Y generalizing f with
  | nil => rfl
  | cons e Y ih =>
    rw [List.foldl_cons, h e List.mem_cons_self, if_neg (by simp)]
    exact ih (fun e he => h e (List.mem_cons_of_mem _ he)) f
theorem sin_adm {X : List Ev} (h : ∀ e ∈ X, endB e = false) (f : Int → Bool) : X.foldl sinB f = admS f X := by
  unfold admS
  induction X generalizing f with
  | nil => rfl
  | cons e X ih =>
    rw [List.foldl_cons, List.foldl_cons, ih (fun e he => h e (List.mem_cons_of_mem _ he))]
    congr 1
    unfold sinB
    rw [h e List.mem_cons_self, if_neg (show ¬ (false = true) by simp)]
theorem sin_end {Y : List Ev} (h : ∀ e ∈ Y, e.kind ≠ 1) (f : Int → Bool) : Y.foldl sinB f = endS f Y := by
  unfold endS
  induction Y generalizing f with
  | nil => rfl
  | cons e Y ih =>
    rw [List.foldl_cons, List.foldl_cons, ih (fun e he => h e (List.mem_cons_of_mem _ he))]
    congr 1
    unfold sinB
    rw [if_neg (h e List.mem_cons_self)]
theorem ran_append (now : Int) (X Y : List Ev) : ranN now (X ++ Y) = ranN (ranN now X) Y := by unfold ranN; rw [List.foldl_append]
theorem ran_none {X : List Ev} (h : ∀ e ∈ X, e.kind ≠ 4 ∧ e.kind ≠ 6 ∧ e.kind ≠ 10) (now : Int) : ranN now X = now := by
  unfold ranN
  induction X generalizing now with
  | nil => rfl
  | cons e X ih =>
    have := h e List.mem_cons_self
    rw [List.foldl_cons, show runsA now e = now by unfold runsA; rw [if_neg (by omega), if_neg (by omega)]]
    exact ih (fun e he => h e (List.mem_cons_of_mem _ he)) now
theorem end_no {e : Ev} (h : e.kind ≠ 8 ∧ e.kind ≠ 9) : endB e = false := by
  cases hE : endB e with
  | false => rfl
  | true => have := endK.1 hE; omega
/-- ahead of the choice -/
theorem pre_evs (s : TSet) (k : KS) (x : Inp) : ∃ X, (arriveK s x (lateK s { k with evs := [] })).evs = X ∧ ∀ e ∈ X, e.kind = 1 ∨ e.kind = 2 ∨ e.kind = 3 := by
  refine ⟨_, rfl, ?_⟩
  have h1 : ∀ e ∈ (lateK s { k with evs := [] }).evs, e.kind = 1 ∨ e.kind = 2 ∨ e.kind = 3 := by
    unfold lateK
    refine fold_range (fun k' : KS => ∀ e ∈ k'.evs, e.kind = 1 ∨ e.kind = 2 ∨ e.kind = 3) (late1 s) _ _ (fun e he => by cases he) fun a i _ h => ?_
    unfold late1
    split
    · intro e he
      rcases mem_snoc (show e ∈ a.evs ++ [_] from he) with he | rfl
      · exact h e he
      · exact .inr (.inr rfl)
    · exact h
  unfold arriveK
  refine fold_range (fun k' : KS => ∀ e ∈ k'.evs, e.kind = 1 ∨ e.kind = 2 ∨ e.kind = 3) (arrive1 s x) _ _ h1 fun a i _ h => ?_
  unfold arrive1
  split
  · exact h
  · split
    · intro e he
      rcases mem_snoc (show e ∈ a.evs ++ [_] from he) with he | rfl
      · exact h e he
      · exact .inr (.inl rfl)
    · split
      · intro e he
        rcases mem_snoc (show e ∈ a.evs ++ [_] from he) with he | rfl
        · exact h e he
        · exact .inr (.inl rfl)
      · intro e he
        rcases mem_snoc (show e ∈ a.evs ++ [_] from he) with he | rfl
        · exact h e he
        · exact .inl rfl
/-- whose turn it is -/
theorem turn_evs (s : TSet) (k : KS) (m : Nat) (hst : k.last = m → (stAt k.tab m).start = true) : ∃ A, (turnK s k m).evs = k.evs ++ A ∧ (∀ e ∈ A, e.kind = 4 ∨ e.kind = 5 ∨ e.kind = 6) ∧ ranN k.last A = m := by
  have hpre : ∃ A0, (preK s k m).evs = k.evs ++ A0 ∧ (∀ e ∈ A0, e.kind = 5) ∧ (k.last = m → A0 = []) := by
    unfold preK
    split
    · rename_i h
      exact ⟨_, rfl, fun e he => by simp at he; subst he; rfl, fun e => absurd e h.2⟩
    · exact ⟨[], (List.append_nil _).symm, fun e he => (by cases he), fun _ => rfl⟩
  obtain ⟨A0, h1, h2, h3⟩ := hpre
  have hr : ∀ (kd c : Int), kd = 4 ∨ kd = 6 → ranN k.last (A0 ++ [⟨(preK s k m).t, kd, m, c⟩]) = m := fun kd c hk => by
    rw [ran_append]
    unfold ranN
    show runsA _ _ = _
    unfold runsA
    rw [if_pos hk]
  have hA : ∀ (kd c : Int), kd = 4 ∨ kd = 6 → ∀ e ∈ A0 ++ [(⟨(preK s k m).t, kd, m, c⟩ : Ev)], e.kind = 4 ∨ e.kind = 5 ∨ e.kind = 6 := fun kd c hk e he => by
    rcases mem_snoc he with he | rfl
    · exact .inr (.inl (h2 e he))
    · dsimp only; omega
  unfold turnK
  dsimp only
  split
  · refine ⟨A0 ++ [⟨(preK s k m).t, 4, m, 0⟩], ?_, hA 4 0 (.inl rfl), hr 4 0 (.inl rfl)⟩
    show (preK s k m).evs ++ [_] = _
    rw [h1, List.append_assoc]
  · split
    · refine ⟨A0 ++ [⟨(preK s k m).t, 6, m, (s.reload * popK (lostO (preK s k m).own m ((preK s k m).had.getD m 0)))⟩], ?_, hA 6 _ (.inr rfl), hr 6 _ (.inr rfl)⟩
      show (preK s k m).evs ++ [_] = _
      rw [h1, List.append_assoc]
    · rename_i hl
      have hl : k.last = m := by simpa using hl
      exact ⟨A0, h1, fun e he => .inr (.inl (h2 e he)), by rw [h3 hl]; exact hl⟩
/-- who runs -/
theorem run_evs (s : TSet) (k : KS) (m touch : Nat) : ∃ B, (runsK s k m touch).evs = k.evs ++ B ∧ (∀ e ∈ B, e.kind = 7 ∨ e.kind = 8 ∨ e.kind = 9) ∧ (runsK s k m touch).last = if B.any endB = true then -1 else k.last := by
  have h7 : ∀ (c : Prop) [Decidable c] (k2 : KS) (r : Int), k2.evs = k.evs → ∃ B0, (if c then k2.tell 7 m r else k2).evs = k.evs ++ B0 ∧ (∀ e ∈ B0, e.kind = 7) ∧ (if c then k2.tell 7 m r else k2).last = k2.last := fun c _ k2 r he => by
    split
    · exact ⟨[⟨k2.t, 7, m, r⟩], by show k2.evs ++ _ = _; rw [he], fun e he => by simp at he; subst he; rfl, rfl⟩
    · exact ⟨[], by rw [he, List.append_nil], fun e he => (by cases he), rfl⟩
  have hn : ∀ B0 : List Ev, (∀ e ∈ B0, e.kind = 7) → B0.any endB = false := fun B0 h => by
    rw [List.any_eq_false]
    intro e he
    rw [end_no (by have := h e he; omega)]
    simp
  unfold runsK
  dsimp only
  split
  · exact ⟨[], (List.append_nil _).symm, fun e he => (by cases he), rfl⟩
  · generalize hp : (({ k with own := touchO k.own m (touch &&& (s.tk m).ecb.toNat) } : KS).jobs.getD m Jb.zero).step = p
    obtain ⟨j2, reg, how⟩ := p
    dsimp only
    generalize hk1 : ({ k with own := touchO k.own m (touch &&& (s.tk m).ecb.toNat), jobs := k.jobs.set m j2 } : KS) = k1
    have he1 : k1.evs = k.evs := by rw [← hk1]
    have hl1 : k1.last = k.last := by rw [← hk1]
    obtain ⟨B0, q1, q2, q3⟩ := h7 (how = 1 ∨ how = 2) k1 reg he1
    generalize (if how = 1 ∨ how = 2 then k1.tell 7 m reg else k1) = k3 at *
    have hov : ∀ (kd c : Int), kd = 8 ∨ kd = 9 → ∃ B, (k3.evs ++ [(⟨k3.t, kd, m, c⟩ : Ev)]) = k.evs ++ B ∧ (∀ e ∈ B, e.kind = 7 ∨ e.kind = 8 ∨ e.kind = 9) ∧ (-1 : Int) = if B.any endB = true then -1 else k.last := fun kd c hk => by
      refine ⟨B0 ++ [⟨k3.t, kd, m, c⟩], by rw [q1, List.append_assoc], fun e he => ?_, ?_⟩
      · rcases mem_snoc he with he | rfl
        · exact .inl (q2 e he)
        · exact .inr hk
      · rw [List.any_append, if_pos]
        rw [show ([(⟨k3.t, kd, m, c⟩ : Ev)].any endB) = true by simp [List.any_cons]; exact endK.2 hk, Bool.or_true]
    split
    · exact hov 8 _ (.inl rfl)
    · split
      · exact hov 9 _ (.inr rfl)
      · refine ⟨B0, q1, fun e he => .inl (q2 e he), ?_⟩
        rw [hn B0 q2, if_neg (by simp)]
        show k3.last = _
        rw [q3, hl1]
theorem ranN_idle (now t : Int) : ranN now [⟨t, 10, -1, 0⟩] = -1 := rfl
/-- a tick, as the audit reads it -/
theorem au_step {s : TSet} (hs : KH s) {P : List Ev} {k : KS} (hI : KInv s P k) (x : Inp) : ∃ f1, admS (fun i => (sinceL P i).isSome) (stepK s k x).evs = f1 ∧ ((stepK s k x).ran = -1 → ∀ y, f1 y = false) ∧ ((stepK s k x).ran ≠ -1 → f1 (stepK s k x).ran = true) ∧
    ranN k.last (stepK s k x).evs = (stepK s k x).ran ∧ ranE k.last (stepK s k x).evs = (stepK s k x).last ∧ endS f1 (stepK s k x).evs = (fun i => (sinceL (P ++ (stepK s k x).evs) i).isSome) ∧ ∀ e ∈ (stepK s k x).evs, e.tick = k.t := by
  have h1 := (hI.lb.late).arrive hs x
  obtain ⟨X, hX, hXk⟩ := pre_evs s k x
  have hl1 : (arriveK s x (lateK s { k with evs := [] })).last = k.last := by rw [(arrive_t _ _ _).2, (late_t _ _).2]
  have ht1 : (arriveK s x (lateK s { k with evs := [] })).t = k.t := by rw [(arrive_t _ _ _).1, (late_t _ _).1]
  have hXe : ∀ e ∈ X, endB e = false := fun e he => end_no (by have := hXk e he; omega)
  have hXr : ∀ e ∈ X, e.kind ≠ 4 ∧ e.kind ≠ 6 ∧ e.kind ≠ 10 := fun e he => by have := hXk e he; omega
  -- who is there when it is chosen
  have hf1 : ∀ y, admS (fun i => (sinceL P i).isSome) X y = (sinceL (P ++ X) y).isSome := fun y => by
    rw [← sin_adm hXe, ← sin_since]
  have hpend : ∀ i : Nat, i < s.tasks.length → (sinceL (P ++ X) i).isSome = (stAt (arriveK s x (lateK s { k with evs := [] })).tab i).pend := fun i hi => by
    have := h1.inv.since i hi
    rw [hX] at this
    rw [this]
    unfold St.was
    split
    · rename_i e; rw [e]; rfl
    · rename_i e; rw [show (stAt (arriveK s x (lateK s { k with evs := [] })).tab i).pend = false by simpa using e]; rfl
  have hout : ∀ y : Int, (sinceL (P ++ X) y).isSome = true → ∃ i : Nat, i < s.tasks.length ∧ y = i := fun y hy => by
    have hok := h1.inv.ok
    rw [hX] at hok
    have : ∀ n, n ≤ (P ++ X).length → (sinceL ((P ++ X).take n) y).isSome = true → ∃ i : Nat, i < s.tasks.length ∧ y = i := by
      intro n
      induction n with
      | zero => intro _ h; simp [sinceL] at h
      | succ n ih =>
        intro hn h
        rw [List.take_succ_eq_append_getElem (by omega), since_snoc] at h
        split at h
        · rename_i e1
          split at h
          · rename_i e2
            rcases hok _ (List.getElem_mem (show n < (P ++ X).length by omega)) with h3 | h3
            · omega
            · exact ⟨y.toNat, by omega, by omega⟩
          · split at h
            · cases h
            · exact ih (by omega) h
        · exact ih (by omega) h
    have := this (P ++ X).length (Nat.le_refl _)
    rw [List.take_length] at this
    exact this hy
  unfold stepK
  dsimp only
  generalize arriveK s x (lateK s { k with evs := [] }) = k1 at h1 hX hl1 hpend ht1
  have hlt := h1.inv.lt
  rcases Int.lt_or_le (chooseS s k1.tab k1.last k1.t) 0 with hneg | hpos
  · have hc : chooseS s k1.tab k1.last k1.t = -1 ∧ k1.last = -1 ∧ ∀ j, j < k1.tab.length → (stAt k1.tab j).pend = false := by
      rcases choose_spec s k1.tab k1.last k1.t with ⟨h4, h5⟩ | ⟨_, h5, h6⟩ | ⟨_, m, h5, _⟩
      · rw [h5] at hneg
        unfold heldS at h4
        rw [decide_eq_false (by omega)] at h4
        cases h4
      · refine ⟨h5, ?_, h6⟩
        rcases h1.inv.curs with hl | ⟨a, b, c, _⟩
        · exact hl
        · rw [h6 _ (by omega)] at c; cases c
      · omega
    rw [if_pos hc.1]
    have he : ({ (k1.tell 10 (-1) 0) with ran := chooseS s k1.tab k1.last k1.t, t := (k1.tell 10 (-1) 0).t + 1 } : KS).evs = X ++ [⟨k1.t, 10, -1, 0⟩] := by
      show k1.evs ++ [_] = _
      rw [hX]
    have hY : ∀ e ∈ [(⟨k1.t, 10, -1, 0⟩ : Ev)], e.kind = 10 := fun e he => by simp at he; subst he; rfl
    have hYe : ∀ e ∈ [(⟨k1.t, 10, -1, 0⟩ : Ev)], endB e = false := fun e he => end_no (by have := hY e he; omega)
    rw [he]
    refine ⟨admS (fun i => (sinceL P i).isSome) X, by rw [adm_append, adm_none (fun e he => by have := hY e he; omega)], fun _ y => ?_, fun h => absurd hc.1 h, ?_, ?_, ?_, fun e he2 => ?_⟩
    · rw [hf1]
      cases hy : (sinceL (P ++ X) y).isSome with
      | false => rfl
      | true =>
        obtain ⟨i, hi, rfl⟩ := hout y hy
        rw [hpend i hi, hc.2.2 i (by omega)] at hy
        cases hy
    · rw [ran_append, ranN_idle]
      exact hc.1.symm
    · unfold ranE
      have hne : (X ++ [(⟨k1.t, 10, -1, 0⟩ : Ev)]).any endB = false := by
        rw [List.any_eq_false]
        intro e he
        rcases mem_snoc he with he | rfl
        · rw [hXe e he]; simp
        · rw [hYe _ (by simp)]; simp
      rw [hne, if_neg (by simp), ran_append, ranN_idle]
      exact hc.2.1.symm
    · rw [end_append, end_none hXe, end_none hYe, ← List.append_assoc, sin_since (P ++ X), sin_since P X, sin_adm hXe]
      rw [sin_end (fun e he => by have := hY e he; omega), end_none hYe]
    · rw [← he] at he2
      exact ((h1.inv.tell (a := 10) (b := -1) (c := 0) (by omega) (.inl ⟨rfl, rfl⟩)).evt e he2).trans ht1
  · obtain ⟨m, hm⟩ := Int.eq_ofNat_of_zero_le hpos
    rw [hm, if_neg (by omega), Int.toNat_natCast]
    obtain ⟨a1, a2, a3, a4, a5, a6, a7, a8, a9⟩ := h1.turn hs hm
    obtain ⟨A, hA, hAk, hAr⟩ := turn_evs s k1 m (fun hlm => by
      rcases h1.inv.curs with hl | ⟨_, _, _, d⟩
      · omega
      · rw [hlm, Int.toNat_natCast] at d; exact d)
    obtain ⟨B, hB, hBk, hBl⟩ := run_evs s { turnK s k1 m with last := (m : Int) } m x.touch
    have he : (runsK s { turnK s k1 m with last := (m : Int) } m x.touch).evs = X ++ (A ++ B) := by
      rw [hB]
      show (turnK s k1 m).evs ++ B = _
      rw [hA, hX, List.append_assoc]
    show ∃ f1, admS _ (runsK s { turnK s k1 m with last := (m : Int) } m x.touch).evs = f1 ∧ ((m : Int) = -1 → _) ∧ ((m : Int) ≠ -1 → f1 m = true) ∧ ranN k.last (runsK s { turnK s k1 m with last := (m : Int) } m x.touch).evs = m ∧ ranE k.last (runsK s { turnK s k1 m with last := (m : Int) } m x.touch).evs = (runsK s { turnK s k1 m with last := (m : Int) } m x.touch).last ∧ endS f1 (runsK s { turnK s k1 m with last := (m : Int) } m x.touch).evs = (fun i => (sinceL (P ++ (runsK s { turnK s k1 m with last := (m : Int) } m x.touch).evs) i).isSome) ∧ ∀ e ∈ (runsK s { turnK s k1 m with last := (m : Int) } m x.touch).evs, e.tick = k.t
    have b0 : LInv s P { turnK s k1 m with last := (m : Int) } m := a1.cong m (turnK s k1 m).ran
    obtain ⟨b1, _, b3, _⟩ := b0.runs hs rfl a2 ⟨a3.flt, a3.thr⟩ a5 a6 a7 x.touch
    have hT : ∀ e ∈ (runsK s { turnK s k1 m with last := (m : Int) } m x.touch).evs, e.tick = k.t := fun e he => by
      rw [b1.evt e he, b3]
      show (turnK s k1 m).t = _
      omega
    clear b1 b3 b0
    rw [he] at hT
    rw [he, hBl]
    have hAe : ∀ e ∈ A, endB e = false := fun e he => end_no (by have := hAk e he; omega)
    have hrn : ranN k.last (X ++ (A ++ B)) = m := by
      rw [ran_append, ran_none hXr, ran_append, ← hl1, hAr, ran_none (fun e he => by have := hBk e he; omega)]
    have hYn : ∀ e ∈ A ++ B, e.kind ≠ 1 := fun e he => by
      rcases List.mem_append.1 he with he | he
      · have := hAk e he; omega
      · have := hBk e he; omega
    refine ⟨admS (fun i => (sinceL P i).isSome) X, by rw [adm_append, adm_none hYn], fun h => by omega, fun _ => ?_, hrn, ?_, ?_, hT⟩
    · rw [hf1, hpend m a5, ← (a9 m).1]
      exact a6
    · unfold ranE
      rw [hrn]
      have hany : (X ++ (A ++ B)).any endB = B.any endB := by
        rw [List.any_append, List.any_append]
        have q1 : X.any endB = false := by rw [List.any_eq_false]; intro e he; rw [hXe e he]; simp
        have q2 : A.any endB = false := by rw [List.any_eq_false]; intro e he; rw [hAe e he]; simp
        rw [q1, q2, Bool.false_or, Bool.false_or]
      rw [hany]
    · rw [end_append, end_none hXe, ← List.append_assoc, sin_since (P ++ X), sin_since P X, sin_adm hXe, sin_end hYn]
theorem tickL_app (X Y : List Ev) (t : Nat) : tickL (X ++ Y) t = tickL X t ++ tickL Y t := by unfold tickL; rw [List.filter_append]
theorem tickL_all {E : List Ev} {t : Nat} (h : ∀ e ∈ E, e.tick = (t : Int)) : tickL E t = E := by
  unfold tickL
  exact List.filter_eq_self.2 fun e he => by simpa using h e he
theorem tickL_nil {E : List Ev} {t : Nat} (h : ∀ e ∈ E, e.tick ≠ (t : Int)) : tickL E t = [] := by
  unfold tickL
  exact List.filter_eq_nil_iff.2 fun e he => by simpa using h e he
/-- after the first m ticks -/
theorem au_at {s : TSet} (hs : KH s) (l : List Inp) : ∀ m, m ≤ l.length → ∃ k P, RunAt s l m k P ∧ (∀ e ∈ P, 0 ≤ e.tick ∧ e.tick < m) ∧ (ranF ((List.range m).map (tickL P))).2 = k.last ∧ (penF ((List.range m).map (tickL P))).2 = (fun i => (sinceL P i).isSome) ∧
    ∀ t, t < m → ((ranF ((List.range m).map (tickL P))).1.getD t 0 = -1 → ∀ y, (penF ((List.range m).map (tickL P))).1.getD t (fun _ => false) y = false) ∧ ((ranF ((List.range m).map (tickL P))).1.getD t 0 ≠ -1 → (penF ((List.range m).map (tickL P))).1.getD t (fun _ => false) ((ranF ((List.range m).map (tickL P))).1.getD t 0) = true)
  | 0, _ => ⟨initK s, [], RunAt.zero hs l, fun e he => (by cases he), rfl, rfl, fun t ht => by omega⟩
  | m + 1, hm => by
    obtain ⟨k, P, h, ht, h1, h2, h3⟩ := au_at hs l m (by omega)
    have hml : m < l.length := by omega
    have hn := h.next hs hml
    obtain ⟨f1, e1, e2, e3, e4, e5, e6, e7⟩ := au_step hs h.inv l[m]
    have hts : ∀ e ∈ (stepK s k l[m]).evs, e.tick = (m : Int) := fun e he => by rw [e7 e he, h.t]
    have hM : (List.range (m + 1)).map (tickL (P ++ (stepK s k l[m]).evs)) = (List.range m).map (tickL P) ++ [(stepK s k l[m]).evs] := by
      rw [List.range_succ, List.map_append]
      congr 1
      · refine List.map_congr_left fun t htm => ?_
        have := List.mem_range.1 htm
        rw [tickL_app, tickL_nil (E := (stepK s k l[m]).evs) fun e he => by have := hts e he; omega]
        exact List.append_nil _
      · show [tickL _ m] = _
        rw [tickL_app, tickL_nil (E := P) fun e he => by have := (ht e he).2; omega, tickL_all hts, List.nil_append]
    have hlr := ranF_len ((List.range m).map (tickL P))
    have hlp := penF_len ((List.range m).map (tickL P))
    rw [List.length_map, List.length_range] at hlr hlp
    refine ⟨_, _, hn, fun e he => ?_, ?_, ?_, fun t htm => ?_⟩
    · rcases List.mem_append.1 he with he | he
      · have := ht e he; omega
      · have := hts e he; omega
    · rw [hM, ranF_snoc, h1]
      exact e5
    · rw [hM, penF_snoc, h2]
      show endS (admS _ _) _ = _
      rw [e1]
      exact e6
    · rw [hM, ranF_snoc, penF_snoc, h1, h2]
      dsimp only
      rw [e1, e4, getD_snoc hlr htm, getD_snoc hlp htm]
      by_cases htm2 : t = m
      · rw [if_pos htm2, if_pos htm2]
        exact ⟨e2, e3⟩
      · rw [if_neg htm2, if_neg htm2]
        exact h3 t (by omega)
end Go.Proofs.Ytlaflbepidkmnaa
/- Au3 -/
namespace Go.Proofs.Ytlaflbepidkmnaa
open Go.RowKit
attribute [local go_sem] setCell_twice ByteArray.toList_eq str_list Ext.alloc Ext.drew
set_option linter.unusedSimpArgs false
set_option linter.unusedVariables false
set_option maxRecDepth 100000
set_option maxHeartbeats 1600000
attribute [local irreducible] Calls

/-- the least of those that have come -/
structure OldP (f : Int → Option Int) (left : Int → Bool) (task : Int) (o : Option Int) : Prop where
  no : o = none → ∀ i t, i < task → f i = some t → left i = true
  is : ∀ m, o = some m → (∃ i, i < task ∧ f i = some m) ∧ ∀ i t, i < task → f i = some t → left i = false → m ≤ t
theorem OldP.start (f : Int → Option Int) (task : Int) : OldP f (fun x => (f x).isSome) task none := ⟨fun _ i t _ h => by simp [h], fun _ h => by cases h⟩
def oldStep (task : Int) (o : Option Int) (x c : Int) : Option Int := if x < task then (match o with | none => some c | some m => if c < m then some c else some m) else o
theorem OldP.step {f : Int → Option Int} {left : Int → Bool} {task x c : Int} {o : Option Int} (h : OldP f left task o) (hf : f x = some c) : OldP f (fun y => left y && !decide (y = x)) task (oldStep task o x c) := by
  unfold oldStep
  by_cases hx : x < task
  · rw [if_pos hx]
    cases o with
    | none =>
      refine ⟨fun h => (by cases h), fun m hm => ?_⟩
      cases hm
      refine ⟨⟨x, hx, hf⟩, fun i t hi hit hl => ?_⟩
      have := h.no rfl i t hi hit
      by_cases e : i = x
      · subst e; rw [hf] at hit; cases hit; exact Int.le_refl _
      · simp [this, e] at hl
    | some m0 =>
      obtain ⟨⟨j, hj, hfj⟩, hm⟩ := h.is m0 rfl
      dsimp only
      have key : ∀ m, m ≤ c → m ≤ m0 → ∀ i t, i < task → f i = some t → (left i && !decide (i = x)) = false → m ≤ t := fun m h1 h2 i t hi hit hl => by
        by_cases e : i = x
        · subst e; rw [hf] at hit; cases hit; exact h1
        · have := hm i t hi hit (by simpa [e] using hl)
          omega
      split
      · exact ⟨fun h => (by cases h), fun m e => by cases e; exact ⟨⟨x, hx, hf⟩, key _ (Int.le_refl _) (by omega)⟩⟩
      · exact ⟨fun h => (by cases h), fun m e => by cases e; exact ⟨⟨j, hj, hfj⟩, key _ (by omega) (Int.le_refl _)⟩⟩
  · rw [if_neg hx]
    refine ⟨fun e i t hi hit => ?_, fun m e => ?_⟩
    · have := h.no e i t hi hit
      have : i ≠ x := fun e => by omega
      simp_all
    · obtain ⟨h1, h2⟩ := h.is m e
      refine ⟨h1, fun i t hi hit hl => h2 i t hi hit ?_⟩
      have : i ≠ x := fun e => by omega
      simpa [this] using hl
theorem OldP.fin {P : List Ev} {left : Int → Bool} {m : Nat} {o : Option Int} (h : OldP (sinceL P) left m o) (hl : ∀ x, left x = false) (hneg : ∀ i, i < 0 → sinceL P i = none) : o = oldE P m := by
  unfold oldE
  cases o with
  | some a =>
    obtain ⟨⟨i, hi, hf⟩, h2⟩ := h.is a rfl
    refine (minO_some.2 ⟨?_, fun b hb => ?_⟩).symm
    · have h0 : 0 ≤ i := by
        rcases Int.lt_or_le i 0 with h | h
        · rw [hneg i h] at hf; cases hf
        · exact h
      refine List.mem_map.2 ⟨i.toNat, List.mem_range.2 (by omega), ?_⟩
      rw [Int.toNat_of_nonneg h0, hf]
    · obtain ⟨j, hj, e⟩ := List.mem_map.1 hb
      have := List.mem_range.1 hj
      exact h2 j b (by omega) e (hl _)
  | none =>
    cases hm : minO ((List.range m).map fun (j : Nat) => sinceL P j) with
    | none => rfl
    | some a =>
      obtain ⟨h1, _⟩ := minO_some.1 hm
      obtain ⟨j, hj, e⟩ := List.mem_map.1 h1
      have hj := List.mem_range.1 hj
      have := h.no rfl j a (by omega) e
      rw [hl] at this; cases this
theorem oldest_au (g bl bs n : Nat) (P : List Ev) (m : Nat) (w : World) (h : WatchR w g bl bs n P) (hneg : ∀ i, i < 0 → sinceL P i = none) :
    Calls Try.prog 43 #[.pointer (some ⟨g, 0, none⟩), .int .i64 m] w fun r w' => r = .returned (.tuple #[.int .i64 ((oldE P m).getD 0), .bool (oldE P m).isSome]) ∧ Ext w w' := by
  have hc := h.box.cell
  have hl := h.since
  have hB := h.box
  have hlt := h.since.lt
  have HN := Lib.hid hneg
  clear h hneg
  go_enter Try.func43, Try.ntmps43
  go_wp2_with (at_range; refine wpF_range mapTyS rfl _ rfl rfl hl ?_; intro w0 cnt0 hcn hrg0 hg0 hs0)
  go_frame
  go_loopw [6, 7, 8, 9] (fun v6 v7 _ _ wr => ∃ (left : Int → Bool) (cnt : Nat) (o : Option Int), v6 = .int .i64 (o.getD 0) ∧ v7 = .bool o.isSome ∧ RngF Try.prog 3 2 wr bs w.heap.size n (sinceL P) left cnt ∧ Hid (OldP (sinceL P) left m o) ∧ Ext w wr) (fun _ _ _ _ wr => wr.rangeLeft bs w.heap.size)
  case atStart => exact ⟨_, cnt0, none, rfl, rfl, hrg0, Lib.hid (OldP.start _ _), (Ext.refl w).grown hg0 (fun k e => by cases e)⟩
  case round =>
    obtain ⟨left, cnt, o, rfl, rfl, hrg, hO, hX⟩ := hrel
    go_wp2_with (at_next; refine wpF_next mapTyS rfl _ rfl rfl hrg ?_ ?_)
    · intro hl0
      have hE := hO.out.fin hl0 HN.out
      have HE := Lib.hid hE
      clear hE
      go_wp2_with (fail)
      exact bodyPost_ret (v := .tuple #[.int .i64 (o.getD 0), .bool o.isSome]) (by simp [results, Try.results43, go_sem]) rfl ⟨by rw [HE.out], hX⟩
    · intro x c w1 cnt1 hwx hwc hlx hfx hrg1 hlt1 hg1 hs1 hen
      have hX1 := hX.grown hg1 (fun k e => by cases e; exact Nat.le_refl _)
      have hst := Lib.hid (hO.out.step hfx)
      have hl1 := hrg1.left_eq
      have hl0 := hrg.left_eq
      unfold oldStep at hst
      clear hfx hlx
      cases hxm : decide (x < (m : Int)) with
      | false =>
        have hst2 := hst.out
        rw [if_neg (by simpa using hxm)] at hst2
        have HST := Lib.hid hst2
        clear hst hst2
        go_wp2_with (fail)
        exact ⟨⟨_, cnt1, o, rfl, rfl, hrg1, HST, hX1⟩, by omega⟩
      | true =>
        have hst2 := hst.out
        rw [if_pos (by simpa using hxm)] at hst2
        cases o with
        | none =>
          have HST := Lib.hid hst2
          clear hst hst2
          go_wp2_with (fail)
          exact ⟨⟨_, cnt1, some c, rfl, rfl, hrg1, HST, hX1⟩, by omega⟩
        | some m0 =>
          dsimp only at hst2
          cases hcm : decide (c < m0) with
          | true =>
            rw [if_pos (by simpa using hcm)] at hst2
            have HST := Lib.hid hst2
            clear hst hst2
            go_wp2_with (fail)
            exact ⟨⟨_, cnt1, some c, rfl, rfl, hrg1, HST, hX1⟩, by omega⟩
          | false =>
            rw [if_neg (by simpa using hcm)] at hst2
            have HST := Lib.hid hst2
            clear hst hst2
            go_wp2_with (fail)
            exact ⟨⟨_, cnt1, some m0, rfl, rfl, hrg1, HST, hX1⟩, by omega⟩
/-- what may make a Preempt of a threshold's task fair -/
def thrA (tick th : Int) (x : Ev) : Bool := (decide (x.tick = tick) && (decide (x.kind = 4) || decide (x.kind = 6))) && decide (x.task < th)
theorem fair1_au (x : Ev) (ge gt : Nat) (w : World) (tick th : Int) (he : w.cell? ⟨ge, 0, none⟩ = some (.int .i64 tick)) (ht : w.cell? ⟨gt, 5, none⟩ = some (.int .i64 th)) :
    Calls Try.prog 44 #[evA x, .pointer (some ⟨ge, 0, none⟩), .pointer (some ⟨gt, 0, none⟩)] w fun r w' => r = .returned (.bool (thrA tick th x)) ∧ Ext w w' := by
  have hX := (Ext.refl w).alloc (.cells #[.int .i64 x.tick, .int .i64 x.kind, .int .i64 x.task, .int .i64 x.n] 60)
  have he2 := hX.cell he
  have ht2 := hX.cell ht
  obtain ⟨a, k, t, n⟩ := x
  unfold evA thrA
  dsimp only at hX he2 ht2 ⊢
  rw [show decide (a = tick) = (a == tick) from rfl, show decide (k = 4) = (k == 4) from rfl, show decide (k = 6) = (k == 6) from rfl]
  go_enter Try.func44, Try.ntmps44
  go_upto_region 1 with (fail)
  generalize hW : w.alloc _ = W at hX he2 ht2 ⊢
  have hB : Blk W w.heap.size #[.int .i64 a, .int .i64 k, .int .i64 t, .int .i64 n] 60 := by rw [← hW]; exact Blk.new _ _ _
  have hc := hB.cell
  clear hW
  cases ha : (a == tick) with
  | false =>
    have HA := Lib.hid ha
    go_wp2_with (fail)
    go_ret
    exact ⟨by rw [HA.out]; rfl, hX⟩
  | true =>
    have HA := Lib.hid ha
    cases hk : (k == 4) with
    | true =>
      have HK := Lib.hid hk
      go_wp2_with (fail)
      go_ret
      exact ⟨by rw [HA.out, HK.out]; rfl, hX⟩
    | false =>
      have HK := Lib.hid hk
      cases hm : (k == 6) with
      | true =>
        have HM := Lib.hid hm
        go_wp2_with (fail)
        go_ret
        exact ⟨by rw [HA.out, HK.out, HM.out]; rfl, hX⟩
      | false =>
        have HM := Lib.hid hm
        go_wp2_with (fail)
        go_ret
        exact ⟨by rw [HA.out, HK.out, HM.out]; rfl, hX⟩
end Go.Proofs.Ytlaflbepidkmnaa
/- Au4 -/
namespace Go.Proofs.Ytlaflbepidkmnaa
open Go.RowKit
attribute [local go_sem] setCell_twice ByteArray.toList_eq str_list Ext.alloc Ext.drew
set_option linter.unusedSimpArgs false
set_option linter.unusedVariables false
set_option maxRecDepth 100000
set_option maxHeartbeats 1600000
attribute [local irreducible] Calls

def fairX (t : Tsk) (P : List Ev) (e : Ev) (rest : List Ev) : Bool :=
  if t.mode = 0 then decide (lastL P e.task = 7)
  else if t.mode = 1 then (match oldE P e.task.toNat with | some a => decide (e.tick = a + t.q) | none => false)
  else rest.any (thrA e.tick t.theta)
abbrev tskA (t : Tsk) (r : Value) : Value := .agg #[.string t.name, .int .i64 t.T, .int .i64 t.D, .int .i64 t.mode, .int .i64 t.q, .int .i64 t.theta, r, .int .u64 t.ecb, .int .u64 t.ucb]
theorem callFair1 (args : Array Value) (w : World) : (callFunc 44 args).run Try.prog w = .ok (.enter 44 args) w := by
  go_simp
theorem fair_au (g bl bs n : Nat) (P : List Ev) (t : Tsk) (r : Value) (e : Ev) (vb : Value) (rest : List Ev) (w : World) (h : WatchR w g bl bs n P) (hb : Evs w vb rest) (he : evIn e) (h0 : 0 ≤ e.task) (hneg : ∀ i, i < 0 → sinceL P i = none)
    (hq : 0 ≤ t.q ∧ t.q ≤ 10000) (ho : ∀ m a, oldE P m = some a → 0 ≤ a ∧ a ≤ 1099511627776) :
    Calls Try.prog 21 #[.pointer (some ⟨g, 0, none⟩), tskA t r, evA e, vb] w fun x w' => x = .returned (.bool (fairX t P e rest)) ∧ Ext w w' := by
  obtain ⟨res, hres⟩ : ∃ res, fairX t P e rest = res := ⟨_, rfl⟩
  rw [hres]
  have HR := Lib.hid hres
  obtain ⟨A, c, rfl, hc1, hc2⟩ := hb.form
  unfold maxLen at hc2
  have HB := Lib.hid hb
  have HW := Lib.hid h
  have hbw := h.box
  obtain ⟨a1, a2, a3, a4, a5, a6⟩ := he
  have wa : (Lit.int .i64 e.task).wf = true := wf64 (by omega) (by omega)
  have HN := Lib.hid hneg
  have HO := Lib.hid ho
  clear hres hb h hneg ho
  unfold tskA evA
  go_enter Try.func21, Try.ntmps21
  go_upto_region 1 with (fail)
  generalize hW : World.alloc _ _ = W
  have hX : Ext w W := by rw [← hW]; exact ((Ext.refl w).alloc _).alloc _
  have hBt : Blk W w.heap.size #[.string t.name, .int .i64 t.T, .int .i64 t.D, .int .i64 t.mode, .int .i64 t.q, .int .i64 t.theta, r, .int .u64 t.ecb, .int .u64 t.ucb] 34 := by rw [← hW]; exact (Blk.new _ _ _).alloc _
  have hBe : Blk W (w.heap.size + 1) #[.int .i64 e.tick, .int .i64 e.kind, .int .i64 e.task, .int .i64 e.n] 60 := by rw [← hW]; exact Blk.new_at _ _ _ _ (by simp)
  clear hW
  have hct := hBt.under
  have hce := hBe.under
  have hct0 := hBt.cell
  have hce0 := hBe.cell
  have hcw := (hbw.ext hX).under
  cases hm0 : (t.mode == 0) with
  | true =>
    have hr := HR.out
    unfold fairX at hr
    rw [if_pos (eq_of_beq hm0)] at hr
    have HR2 := Lib.hid hr
    clear hr
    go_upto_region 3 with (fail)
    refine wp_region_text (n := 6) (S := Ext W) (by kernel_rfl) (by kernel_rfl) (Ext.refl W).drew (fun K hK => ?_)
    (repeat (first | (apply hO_and; (· rfl); (· rfl); (· rfl); (· rfl); simp only [Act.put, List.setIfInBounds_toArray, List.set_cons_zero, List.set_cons_succ]) | (apply hO_or; (· rfl); (· rfl); (· rfl); (· rfl); simp only [Act.put, List.setIfInBounds_toArray, List.set_cons_zero, List.set_cons_succ]) | (apply hO_off; (· rfl); (· rfl); simp only [Act.put, List.setIfInBounds_toArray, List.set_cons_zero, List.set_cons_succ]) | (apply hO_val; (· intro w hS; go_simp; with_reducible rfl); (· rfl); simp only [Act.put, List.setIfInBounds_toArray, List.set_cons_zero, List.set_cons_succ]) | (apply hO_call; (· rfl); (· intro w hS; go_simp; exact ⟨rfl, rfl⟩); (· intro w hS; fail); simp only [Act.put, List.setIfInBounds_toArray, List.set_cons_zero, List.set_cons_succ]) | (apply hO_if; (· rfl); (· rfl); (· intro hif w hS; go_simp; with_reducible rfl); simp only [Act.put, List.setIfInBounds_toArray, List.set_cons_zero, List.set_cons_succ]) | (apply hO_ifcall; (· rfl); (· rfl); (· intro hif w hS; go_simp; exact ⟨rfl, rfl⟩); (· intro hif w hS; fail); simp only [Act.put, List.setIfInBounds_toArray, List.set_cons_zero, List.set_cons_succ]))); refine hO_nil ?_
    refine hK _ ?_
    clear hK K
    intro w2 hx2
    simp only [List.drop_succ_cons, List.drop_zero]
    obtain ⟨f, hL, hf⟩ := HW.out.last
    have hL2 := hL.ext (hX.trans hx2)
    have hf0 := hf e.task
    have HF := Lib.hid hf0
    clear hf hf0 hL
    go_wp2_with (at_lookup; refine wpF_look1 mapTyL rfl _ _ rfl rfl hL2 e.task wa rfl ?_; rw [HF.out])
    go_ret
    exact ⟨by rw [← HR2.out]; rfl, hX.trans hx2⟩
  | false =>
    cases hm1 : (t.mode == 1) with
    | true =>
      have hr := HR.out
      unfold fairX at hr
      rw [if_neg (by simpa using hm0), if_pos (eq_of_beq hm1)] at hr
      have HR2 := Lib.hid hr
      have hOld := oldest_au g bl bs n P e.task.toNat W (HW.out.ext hX) HN.out
      rw [Int.toNat_of_nonneg h0] at hOld
      have HO2 := Lib.hid hOld
      have HO3 := Lib.hid (HO.out e.task.toNat)
      clear hr hOld
      generalize oldE P e.task.toNat = o at *
      go_wp2_with (fail)
      refine HO2.out.mono ?_
      rintro _ w2 ⟨rfl, hX2⟩
      have hct2 := (hBt.ext hX2).cell
      have hce2 := (hBe.ext hX2).cell
      have hcw2 := (hbw.ext (hX.trans hX2)).cell
      cases o with
      | none =>
        go_wp2_with (fail)
        go_ret
        exact ⟨by rw [← HR2.out]; rfl, hX.trans hX2⟩
      | some a =>
        have hb1 := HO3.out a rfl
        have hwr : wrap64 (a + t.q) = a + t.q := by unfold wrap64; omega
        have hwr2 : IntKind.i64.wrap (a + t.q) = a + t.q := by rw [IntKind.wrap_i64]; omega
        go_wp2_with (fail)
        go_ret
        exact ⟨by rw [← HR2.out]; rfl, hX.trans hX2⟩
    | false =>
      have hr := HR.out
      unfold fairX at hr
      rw [if_neg (by simpa using hm0), if_neg (by simpa using hm1)] at hr
      have HR2 := Lib.hid hr
      have hC := contains_ev (.slice A rest.length c) rest 44 #[.pointer (some ⟨w.heap.size + 1, 0, none⟩), .pointer (some ⟨w.heap.size, 0, none⟩)] (thrA e.tick t.theta) W (HB.out.ext hX) callFair1
        (fun w' hx x _ => fair1_au x _ _ w' e.tick t.theta ((hBe.ext hx).cell 0) ((hBt.ext hx).cell 5))
      have HC := Lib.hid hC
      clear hr hC
      go_wp2_with (fail)
      refine HC.out.mono ?_
      rintro _ w2 ⟨rfl, hX2⟩
      rw [HR2.out]
      go_wp2_with (fail)
      go_ret
      exact ⟨rfl, hX.trans hX2⟩
theorem Evs.drop {w : World} {b o n c : Nat} {L : List Ev} (h : Evs w (.slice (some ⟨b, o, none⟩) n c) L) (j : Nat) (hj : j ≤ L.length) : Evs w (.slice (some ⟨b, o + j * 4, none⟩) (L.length - j) (c - j)) (L.drop j) := by
  obtain ⟨A', c', e1, h1, h2, h3⟩ := h
  obtain ⟨rfl, rfl, rfl⟩ := Value.slice.inj e1
  refine ⟨_, _, by rw [List.length_drop], by rw [List.length_drop]; omega, by omega, fun hne => ?_⟩
  have hlt : j < L.length := by
    rcases Nat.lt_or_ge j L.length with h | h
    · exact h
    · exact absurd (List.drop_eq_nil_of_le h) hne
  obtain ⟨b', o', e2, hF, hx⟩ := h3 (fun e => by rw [e] at hlt; cases hlt)
  cases e2
  refine ⟨_, _, rfl, trivial, fun i hi => ?_⟩
  rw [List.length_drop] at hi
  have := hx (j + i) (by omega)
  rw [List.getElem_drop, Nat.add_assoc, ← Nat.add_mul]
  exact this
theorem Evs.cutAt {w : World} {b o n c : Nat} {L : List Ev} (h : Evs w (.slice (some ⟨b, o, none⟩) n c) L) (j : Nat) (hj : j ≤ L.length) : ∃ v, Evs w v (L.drop j) ∧
    ∀ w', (Instr.slice 28 (.slice (some ⟨b, o, none⟩) n c) (some (.int .i64 (j : Nat))) none none).run Try.prog w' = .ok v w' := by
  have hn : n = L.length := by obtain ⟨A', c', e1, _⟩ := h; exact (Value.slice.inj e1).2.1
  have hcc : L.length ≤ c := by
    obtain ⟨A', c', e1, h1, _⟩ := h
    obtain ⟨_, _, rfl⟩ := Value.slice.inj e1
    exact h1
  subst hn
  refine ⟨Go.sliced (some ⟨b, o, none⟩) j L.length c 4, ?_, fun w' => ?_⟩
  · unfold Go.sliced
    by_cases hc : c = j
    · subst hc
      have e : L.drop c = [] := List.drop_eq_nil_of_le hcc
      have e2 : L.length - c = 0 := by omega
      rw [e, e2, Nat.sub_self]
      exact ⟨_, _, rfl, Nat.zero_le _, Nat.zero_le _, fun h => absurd rfl h⟩
    · rw [if_neg hc]
      have := h.drop j hj
      have e3 : (Option.map (fun x => x.add (j * 4)) (some (⟨b, o, none⟩ : Addr))) = some ⟨b, o + j * 4, none⟩ := by
        simp only [Option.map_some, Addr.add]
        by_cases hj0 : j * 4 = 0
        · rw [if_pos hj0, hj0]; rfl
        · rw [if_neg hj0]
      rw [e3]
      exact this
  · rw [run_slice_l w' 28 (some ⟨b, o, none⟩) L.length c Try.underlying28 .i64 (j : Nat) (by omega) (by omega)]
    rw [show (sizeOf (Try.prog.elem 28)).run Try.prog w' = .ok 4 w' by go_simp]
    simp only [Result.andThen, Int.toNat_natCast]
/-- events of which each Preempt is of a task of the set -/
def preIn (n : Nat) (L : List Ev) : Prop := ∀ e ∈ L, e.kind = 5 → 0 ≤ e.task ∧ e.task < n
theorem same_any {L : List Ev} {k : Nat} (hk : k < L.length) (hs : L.Pairwise fun a b => a.tick ≤ b.tick) (p : Ev → Bool) : (sameT L k).any p = (L.drop (k + 1)).any (fun x => decide (x.tick = (evAt L k).tick) && p x) := by
  unfold sameT
  have h1 : ∀ x ∈ L.drop (k + 1), (evAt L k).tick ≤ x.tick := fun x hx => by
    obtain ⟨i, hi, rfl⟩ := List.mem_iff_getElem.1 hx
    rw [List.getElem_drop, evAt_in hk]
    rw [List.length_drop] at hi
    exact List.pairwise_iff_getElem.1 hs k (k + 1 + i) hk (by omega) (by omega)
  have h2 : (L.drop (k + 1)).Pairwise fun a b => a.tick ≤ b.tick := hs.sublist (List.drop_sublist _ _)
  generalize (evAt L k).tick = t at *
  generalize L.drop (k + 1) = M at *
  clear hs hk
  induction M with
  | nil => rfl
  | cons x M ih =>
    rw [List.pairwise_cons] at h2
    have ih := ih h2.2 (fun y hy => h1 y (List.mem_cons_of_mem _ hy))
    by_cases hx : x.tick = t
    · rw [List.takeWhile_cons_of_pos (by simpa using hx), List.any_cons, List.any_cons, ih]
      simp [hx]
    · rw [List.takeWhile_cons_of_neg (by simpa using hx)]
      have hgt := h1 x List.mem_cons_self
      have : (x :: M).any (fun x => decide (x.tick = t) && p x) = false := by
        rw [List.any_eq_false]
        intro y hy
        rcases List.mem_cons.1 hy with rfl | hy
        · simp [hx]
        · have := h2.1 y hy
          have : y.tick ≠ t := by omega
          simp [this]
      rw [this]; rfl
theorem fairAt_eq {s : TSet} {L : List Ev} {k : Nat} (hk : k < L.length) (hs : L.Pairwise fun a b => a.tick ≤ b.tick) (h0 : ∀ e ∈ L, 0 ≤ e.tick) (hk5 : L[k].kind = 5) (h1 : 0 ≤ L[k].task) (h2 : L[k].task < s.tasks.length) :
    fairAt s L k = fairX (s.tk L[k].task.toNat) (L.take k) L[k] (L.drop (k + 1)) := by
  unfold fairAt fairX
  rw [evAt_in hk, if_neg (by omega)]
  by_cases m0 : (s.tk L[k].task.toNat).mode = 0
  · rw [if_pos m0, if_pos m0]
  · rw [if_neg m0, if_neg m0]
    by_cases m1 : (s.tk L[k].task.toNat).mode = 1
    · rw [if_pos m1, if_pos m1]
      cases ho : oldE (L.take k) L[k].task.toNat with
      | none => rfl
      | some a =>
        have hnn := old_nn (L := L.take k) (fun e he => h0 e (List.mem_of_mem_take he)) ho
        show (decide (0 ≤ a) && decide (a + _ = L[k].tick)) = decide (L[k].tick = a + _)
        rw [decide_eq_true hnn, Bool.true_and]
        exact decide_eq_decide.2 ⟨fun h => h.symm, fun h => h.symm⟩
    · rw [if_neg m1, if_neg m1, same_any hk hs, evAt_in hk]
      congr 1
      funext x
      unfold thrB thrA
      simp only [Bool.and_assoc]
theorem fairAt_not {s : TSet} {L : List Ev} {k : Nat} (hk : k < L.length) (hk5 : L[k].kind ≠ 5) : fairAt s L k = true := by
  unfold fairAt
  rw [evAt_in hk, if_pos (.inl hk5)]
end Go.Proofs.Ytlaflbepidkmnaa
/- Au5 -/
namespace Go.Proofs.Ytlaflbepidkmnaa
open Go.RowKit
attribute [local go_sem] setCell_twice ByteArray.toList_eq str_list Ext.alloc Ext.drew
set_option linter.unusedSimpArgs false
set_option linter.unusedVariables false
set_option maxRecDepth 100000
set_option maxHeartbeats 1600000
attribute [local irreducible] Calls
theorem callE' {P : Program} {f : FuncId} {args : Array Value} {w0 w : World} {u : Value} (hX : Ext w0 w) (h : Calls P f args w fun e w' => e = .returned u ∧ Ext w w') : Calls P f args w fun e w' => e = .returned u ∧ Ext w0 w' :=
  h.mono fun _ _ ⟨he, hb⟩ => ⟨he, hX.trans hb⟩
theorem since_neg {L : List Ev} (h : ∀ e ∈ L, e.kind = 1 → 0 ≤ e.task) (i : Int) (hi : i < 0) : sinceL L i = none := by
  have : ∀ n, n ≤ L.length → sinceL (L.take n) i = none := by
    intro n
    induction n with
    | zero => intro _; rfl
    | succ n ih =>
      intro hn
      rw [List.take_succ_eq_append_getElem (by omega), since_snoc, ih (by omega)]
      have := h L[n] (List.getElem_mem _)
      split
      · split
        · rename_i e1 e2; have := this e2; omega
        · split <;> rfl
      · rfl
  have := this L.length (Nat.le_refl _)
  rwa [List.take_length] at this
theorem since_ticks {L : List Ev} {B : Int} (h : ∀ e ∈ L, 0 ≤ e.tick ∧ e.tick ≤ B) : ∀ (i a : Int), sinceL L i = some a → 0 ≤ a ∧ a ≤ B := by
  have : ∀ n, n ≤ L.length → ∀ (i a : Int), sinceL (L.take n) i = some a → 0 ≤ a ∧ a ≤ B := by
    intro n
    induction n with
    | zero => intro _ i a h; simp [sinceL] at h
    | succ n ih =>
      intro hn i a hs
      rw [List.take_succ_eq_append_getElem (by omega), since_snoc] at hs
      split at hs
      · split at hs
        · cases hs; exact h _ (List.getElem_mem _)
        · split at hs
          · cases hs
          · exact ih (by omega) i a hs
      · exact ih (by omega) i a hs
  intro i a hs
  have := this L.length (Nat.le_refl _)
  rw [List.take_length] at this
  exact this i a hs
theorem old_ticks {L : List Ev} {B : Int} (h : ∀ e ∈ L, 0 ≤ e.tick ∧ e.tick ≤ B) {i : Nat} {a : Int} (ho : oldE L i = some a) : 0 ≤ a ∧ a ≤ B := by
  unfold oldE at ho
  obtain ⟨h1, _⟩ := minO_some.1 ho
  obtain ⟨j, _, hj⟩ := List.mem_map.1 h1
  exact since_ticks h j a hj
theorem fairB_snoc {s : TSet} {L : List Ev} {k : Nat} : (List.range (k + 1)).all (fairAt s L) = ((List.range k).all (fairAt s L) && fairAt s L k) := by
  rw [List.range_succ, List.all_append]; simp
theorem fairB_not {s : TSet} {L : List Ev} {k : Nat} (hk : k < L.length) (h : fairAt s L k = false) : fairB s L = false := by
  unfold fairB
  rw [List.all_eq_false]
  exact ⟨k, List.mem_range.2 hk, by simp [h]⟩
theorem auFair_any (s : TSet) (v va : Value) (L : List Ev) (w : World) (hv : Tasks w v s.tasks) (hq : ∀ i, i < s.tasks.length → 0 ≤ (s.tk i).q ∧ (s.tk i).q ≤ 10000) (ha : Evs w va L) (hl : L.length ≤ 1000000) (hin : ∀ e ∈ L, evIn e) (hp : preIn s.tasks.length L) (hn : ∀ e ∈ L, e.kind = 1 → 0 ≤ e.task)
    (hs : L.Pairwise fun a b => a.tick ≤ b.tick) :
    Calls Try.prog 10 #[setV s v, va] w fun r w' => r = .returned (.bool (fairB s L)) ∧ Ext w w' := by
  obtain ⟨A, c, rfl, hcc, hcm, hxx⟩ := id hv
  obtain ⟨Ae, ce, rfl, hce1, hce2⟩ := ha.form
  clear hxx
  unfold maxLen at hcm hce2
  obtain ⟨res, hres⟩ : ∃ res, fairB s L = res := ⟨_, rfl⟩
  rw [hres]
  have HR := Lib.hid hres
  have HV := Lib.hid hv
  have HE := Lib.hid ha
  have HIN := Lib.hid hin
  have HQ := Lib.hid hq
  have HP := Lib.hid hp
  have HNE := Lib.hid hn
  have HS := Lib.hid hs
  clear hv ha hin hp hn hs hres hq
  unfold setV
  have hmm := @run_makeMap Try.prog
  go_enter Try.func10, Try.ntmps10
  go_upto_region 2 with (fail)
  generalize hW : World.alloc _ (.cells _ 58) = W
  have hX : Ext w W := by rw [← hW]; exact ((((Ext.refl w).alloc _).alloc _).alloc _).alloc _
  have hBs : Blk W w.heap.size #[.int .i64 s.reload, .slice A s.tasks.length c] 24 := by rw [← hW]; exact (((Blk.new _ _ _).alloc _).alloc _).alloc _
  have hW0 : WatchR W (w.heap.size + 1 + 1 + 1) (w.heap.size + 1) (w.heap.size + 1 + 1) 0 [] := by
    rw [← hW]
    refine ⟨Blk.new_at _ _ _ _ (by simp), ⟨fun _ => none, ?_, fun _ => rfl⟩, ?_, by omega⟩
    · have := (MapF.made Try.prog 3 3 (w.alloc (.cells #[.int .i64 s.reload, .slice A s.tasks.length c] 24))).ext (((Ext.refl _).alloc (.map #[] 0)).alloc (.cells #[.map (some (w.heap.size + 1)), .map (some (w.heap.size + 1 + 1))] 58))
      simpa using this
    · have := (MapF.made Try.prog 3 2 ((w.alloc (.cells #[.int .i64 s.reload, .slice A s.tasks.length c] 24)).alloc (.map #[] 0))).ext ((Ext.refl _).alloc (.cells #[.map (some (w.heap.size + 1)), .map (some (w.heap.size + 1 + 1))] 58))
      have e : (sinceL []) = fun _ => none := rfl
      rw [e]
      simpa using this
  clear hW hmm
  have HBS := Lib.hid hBs
  have HX := Lib.hid hX
  have HW0 := Lib.hid hW0
  have hgs := hX.size
  clear hBs hX hW0
  go_wp2_with (fail)
  go_loopw [6, 7, 14] (fun _ _ i wr => ∃ k : Nat, k ≤ L.length ∧ i = .int .i64 k ∧ WatchR wr (w.heap.size + 1 + 1 + 1) (w.heap.size + 1) (w.heap.size + 1 + 1) k (L.take k) ∧ Hid ((List.range k).all (fairAt s L) = true) ∧ Blk wr w.heap.size #[.int .i64 s.reload, .slice A s.tasks.length c] 24 ∧ Ext w wr) (fun _ _ i _ => L.length - (intOf i).toNat)
  case atStart => exact ⟨0, Nat.zero_le _, rfl, HW0.out, Lib.hid rfl, HBS.out, HX.out⟩
  case round =>
    obtain ⟨k, hk, rfl, hWk, hall, hBk, hXk⟩ := hrel
    by_cases hlt : k < L.length
    · have hin := HIN.out _ (List.getElem_mem hlt)
      have hpin := HP.out _ (List.getElem_mem hlt)
      have hfs := fairB_snoc (s := s) (L := L) (k := k)
      have hno := fun h => fairB_not (s := s) hlt h
      have htk := fun (h : L[k].kind = 5) h1 h2 => fairAt_eq (s := s) hlt HS.out (fun e he => (HIN.out e he).1) h h1 h2
      have htn := fun (h : L[k].kind ≠ 5) => fairAt_not (s := s) hlt h
      have hsn : L.take (k + 1) = L.take k ++ [L[k]] := List.take_succ_eq_append_getElem hlt
      have hneg := fun i hi => since_neg (L := L.take k) (fun e he => HNE.out e (List.mem_of_mem_take he)) i hi
      have hold := fun m a (h : oldE (L.take k) m = some a) => old_ticks (L := L.take k) (B := 1099511627776) (fun e he => by have := HIN.out e (List.mem_of_mem_take he); exact ⟨this.1, this.2.1⟩) h
      obtain ⟨b, o, rfl, hx⟩ := HE.out.at hlt
      obtain ⟨vd, hdr, hsl⟩ := Evs.cutAt HE.out (k + 1) hlt
      push_cast at hsl
      obtain ⟨x0, x1, x2, x3⟩ := hx wr hXk
      rw [evAt_in hlt] at x0 x1 x2 x3
      have HIN2 := Lib.hid hin
      have HPIN := Lib.hid hpin
      have HFS := Lib.hid hfs
      have HNO := Lib.hid hno
      have HTK := Lib.hid htk
      have HTN := Lib.hid htn
      have HSN := Lib.hid hsn
      have HNEG := Lib.hid hneg
      have HOLD := Lib.hid hold
      have HDR := Lib.hid hdr
      clear hin hpin hfs hno htk htn hsn hneg hold hdr hx
      generalize L[k] = e at *
      generalize hPk : L.take k = P at *
      generalize hRk : L.drop (k + 1) = R at *
      clear hPk hRk
      go_upto_region 5 with (fail)
      have hX5 := (Ext.refl wr).alloc (.cells #[.int .i64 e.tick, .int .i64 e.kind, .int .i64 e.task, .int .i64 e.n] 60)
      have hB5 := Blk.new wr #[.int .i64 e.tick, .int .i64 e.kind, .int .i64 e.task, .int .i64 e.n] 60
      generalize wr.alloc _ = W5 at hX5 hB5 ⊢
      generalize wr.heap.size = ge at hB5 ⊢
      have hce := hB5.under
      have hce0 := hB5.cell
      have hcs := (hBk.ext hX5).under
      have hcs0 := (hBk.ext hX5).cell
      have hsee := fun w' (hx : Ext W5 w') => sees_au _ _ _ _ P e w' (hWk.ext (hX5.trans hx)) (by omega) HIN2.out
      have HSEE := Lib.hid hsee
      have HBE := Lib.hid hB5
      clear hsee x0 x1 x2 x3 hB5
      cases hk5 : (e.kind == 5) with
      | false =>
        have ht := HTN.out (by simpa using hk5)
        have hall2 := Lib.hid (show (List.range (k + 1)).all (fairAt s L) = true by rw [HFS.out, hall.out, ht]; rfl)
        clear ht
        refine wp_region_all (S := Ext W5) (by kernel_rfl) (by kernel_rfl) (Ext.refl W5).drew (fun K hK => ?_); (repeat (first | (apply hO_and (p := false) (q := true); (· rfl); (· rfl); (· rfl); (· rfl); simp only [Act.put, List.setIfInBounds_toArray, List.set_cons_zero, List.set_cons_succ]) | (apply hO_or (p := true) (q := true); (· rfl); (· rfl); (· rfl); (· rfl); simp only [Act.put, List.setIfInBounds_toArray, List.set_cons_zero, List.set_cons_succ]) | (apply hO_and; (· rfl); (· rfl); (· rfl); (· rfl); simp only [Act.put, List.setIfInBounds_toArray, List.set_cons_zero, List.set_cons_succ]) | (apply hO_or; (· rfl); (· rfl); (· rfl); (· rfl); simp only [Act.put, List.setIfInBounds_toArray, List.set_cons_zero, List.set_cons_succ]) | (apply hO_off; (· rfl); (· rfl); simp only [Act.put, List.setIfInBounds_toArray, List.set_cons_zero, List.set_cons_succ]) | (apply hO_un; (· rfl); (· rfl); simp only [Act.put, List.setIfInBounds_toArray, List.set_cons_zero, List.set_cons_succ]) | (apply hO_val; (· intro w hS; go_simp; with_reducible rfl); (· rfl); simp only [Act.put, List.setIfInBounds_toArray, List.set_cons_zero, List.set_cons_succ]) | (apply hO_call; (· rfl); (· intro w hS; go_simp; exact ⟨rfl, rfl⟩); (· intro w hS; fail); simp only [Act.put, List.setIfInBounds_toArray, List.set_cons_zero, List.set_cons_succ]) | (apply hO_if; (· rfl); (· rfl); (· intro hif w hS; go_simp; with_reducible rfl); simp only [Act.put, List.setIfInBounds_toArray, List.set_cons_zero, List.set_cons_succ]) | (apply hO_ifcall; (· rfl); (· rfl); (· intro hif w hS; go_simp; exact ⟨rfl, rfl⟩); (· intro hif w hS; fail); simp only [Act.put, List.setIfInBounds_toArray, List.set_cons_zero, List.set_cons_succ]))); refine hO_nil ?_; refine hK _ ?_; clear hK K
        intro w6 hx6
        have hc6 := (HBE.out.ext hx6).cell
        clear hce0 hcs0 hce hcs
        go_wp2_with (fail)
        refine (HSEE.out w6 hx6).mono ?_
        rintro _ w7 ⟨rfl, hW7, hC7⟩
        have hX7 : Ext w w7 := (hXk.trans (hX5.trans hx6)).chg hC7 (fun q h => by rcases h with rfl | rfl <;> omega)
        have hB7 := (hBk.ext (hX5.trans hx6)).chg hC7 (fun h => by rcases h with h | h <;> omega)
        clear hc6
        go_wp2_with (fail)
        exact ⟨⟨k + 1, hlt, rfl, by rw [HSN.out]; exact hW7, hall2, hB7, hX7⟩, by simp [intOf]; omega⟩
      | true =>
        obtain ⟨tick, kind, task, nn⟩ := e
        dsimp only at *
        have HK5 := Lib.hid (eq_of_beq hk5)
        obtain ⟨h1, h2⟩ := HPIN.out HK5.out
        obtain ⟨i, rfl⟩ : ∃ i : Nat, task = (i : Int) := ⟨task.toNat, by omega⟩
        have hi : i < s.tasks.length := by omega
        have hl0 : decide ((i : Int) < 0) = false := decide_eq_false (by omega)
        have hl1 : decide ((s.tasks.length : Int) ≤ i) = false := decide_eq_false (by omega)
        obtain ⟨bt, ot, rt, rfl, hat⟩ := (HV.out.ext (hXk.trans hX5)).at hi
        obtain ⟨t0, t1, t2, t3, t4, t5, t6, t7, t8⟩ := hat.under
        obtain ⟨Ar, cr, rfl⟩ := hat.row
        have hti : s.tk i = s.tasks[i] := tk_in s hi
        have hqi := HQ.out i hi
        rw [hti] at hqi
        have hfa := HTK.out HK5.out h1 h2
        rw [Int.toNat_natCast, hti] at hfa
        generalize s.tasks[i] = t at *
        have hfair := fun w' (hx : Ext W5 w') => callE' hx (fair_au _ _ _ k P t (.slice Ar t.regs.length cr) ⟨tick, kind, i, nn⟩ _ R w' (hWk.ext (hX5.trans hx)) (HDR.out.ext (hXk.trans (hX5.trans hx))) HIN2.out h1 HNEG.out hqi HOLD.out)
        generalize fairX t P ⟨tick, kind, i, nn⟩ R = fb at hfa hfair
        have HFA := Lib.hid hfa
        unfold tskA evA at hfair
        have hw1 : IntKind.i64.wrap ((k : Int) + 1) = ((k + 1 : Nat) : Int) := by rw [IntKind.wrap_i64]; omega
        have hk1 : k + 1 ≤ L.length := hlt
        clear hfa hat hti hqi
        refine wp_region_all (S := Ext W5) (by kernel_rfl) (by kernel_rfl) (Ext.refl W5).drew (fun K hK => ?_); (repeat (first | (apply hO_and (p := false) (q := true); (· rfl); (· rfl); (· rfl); (· rfl); simp only [Act.put, List.setIfInBounds_toArray, List.set_cons_zero, List.set_cons_succ]) | (apply hO_or (p := true) (q := true); (· rfl); (· rfl); (· rfl); (· rfl); simp only [Act.put, List.setIfInBounds_toArray, List.set_cons_zero, List.set_cons_succ]) | (apply hO_and; (· rfl); (· rfl); (· rfl); (· rfl); simp only [Act.put, List.setIfInBounds_toArray, List.set_cons_zero, List.set_cons_succ]) | (apply hO_or; (· rfl); (· rfl); (· rfl); (· rfl); simp only [Act.put, List.setIfInBounds_toArray, List.set_cons_zero, List.set_cons_succ]) | (apply hO_off; (· rfl); (· rfl); simp only [Act.put, List.setIfInBounds_toArray, List.set_cons_zero, List.set_cons_succ]) | (apply hO_un; (· rfl); (· rfl); simp only [Act.put, List.setIfInBounds_toArray, List.set_cons_zero, List.set_cons_succ]) | (apply hO_val; (· intro w hS; go_simp; with_reducible rfl); (· rfl); simp only [Act.put, List.setIfInBounds_toArray, List.set_cons_zero, List.set_cons_succ]) | (apply hO_call; (· rfl); (· intro w hS; go_simp; exact ⟨rfl, rfl⟩); (· intro w hS; exact hfair _ hS); simp only [Act.put, List.setIfInBounds_toArray, List.set_cons_zero, List.set_cons_succ]) | (apply hO_if; (· rfl); (· rfl); (· intro hif w hS; go_simp; with_reducible rfl); simp only [Act.put, List.setIfInBounds_toArray, List.set_cons_zero, List.set_cons_succ]) | (apply hO_ifcall; (· rfl); (· rfl); (· intro hif w hS; go_simp; exact ⟨rfl, rfl⟩); (· intro hif w hS; exact hfair _ hS); simp only [Act.put, List.setIfInBounds_toArray, List.set_cons_zero, List.set_cons_succ]))); refine hO_nil ?_; refine hK _ ?_; clear hK K
        intro w6 hx6
        clear hfair t0 t1 t2 t3 t4 t5 t6 t7 t8
        cases fb with
        | false =>
          have hres := HNO.out HFA.out
          rw [HR.out] at hres
          subst hres
          go_wp2_with (fail)
          go_ret
          exact ⟨rfl, hXk.trans (hX5.trans hx6)⟩
        | true =>
          have hall2 := Lib.hid (show (List.range (k + 1)).all (fairAt s L) = true by rw [HFS.out, hall.out, HFA.out]; rfl)
          have hc6 := (HBE.out.ext hx6).cell
          clear hce0 hcs0 hce hcs
          go_wp2_with (fail)
          refine (HSEE.out w6 hx6).mono ?_
          rintro _ w7 ⟨rfl, hW7, hC7⟩
          have hX7 : Ext w w7 := (hXk.trans (hX5.trans hx6)).chg hC7 (fun q h => by rcases h with rfl | rfl <;> omega)
          have hB7 := (hBk.ext (hX5.trans hx6)).chg hC7 (fun h => by rcases h with h | h <;> omega)
          clear hc6
          go_wp2_with (fail)
          exact ⟨⟨k + 1, hlt, rfl, by rw [HSN.out]; exact hW7, hall2, hB7, hX7⟩, by simp [intOf]; omega⟩
    · have hke : k = L.length := by omega
      subst hke
      have hres : res = true := by rw [← HR.out]; exact hall.out
      subst hres
      go_wp2_with (fail)
      go_ret
      exact ⟨rfl, hXk⟩
end Go.Proofs.Ytlaflbepidkmnaa
/- L27k -/
namespace Go.Proofs.Ytlaflbepidkmnaa
open Go.RowKit
attribute [local go_sem] setCell_twice ByteArray.toList_eq str_list Ext.alloc Ext.drew
set_option linter.unusedSimpArgs false
set_option linter.unusedVariables false
set_option maxRecDepth 100000
set_option maxHeartbeats 1600000
attribute [local irreducible] Calls
theorem ints_two' {w : World} {g : Nat} {x y : Int} {e : TypeId} (hB : Blk w g #[.int .i64 x, .int .i64 y] e) : Ints w (.slice (some ⟨g, 0, none⟩) 2 2) [x, y] := by
  refine ⟨_, _, rfl, Nat.le_refl _, by unfold maxLen; omega, fun _ => ⟨g, 0, rfl, fun i hi => ?_⟩⟩
  have hc := hB.cell
  have : i = 0 ∨ i = 1 := by simp at hi; omega
  rcases this with rfl | rfl
  · exact hc 0
  · exact hc 1
theorem known27_any (w : World) :
    Calls Try.prog 12 #[] w fun e w' => e = .returned (.bool true) ∧ Ext w w' := by
  have hR := fun W => ran_au (.slice none 0 0) [] 2 W (SlR.nil _ _ _ _) (by omega) (by simp) (fun e he => by cases he)
  have hq : ∀ i, i < kS25.tasks.length → 0 ≤ (kS25.tk i).q ∧ (kS25.tk i).q ≤ 10000 := fun i hi => by
    obtain rfl : i = 0 := by simp [kS25] at hi; exact hi
    decide
  have hF0 := fun v W (hv : Tasks W v kS25.tasks) => auFair_any kS25 v (.slice none 0 0) [] W hv hq (SlR.nil _ _ _ _) (by simp) (fun e he => by cases he) (fun e he => by cases he) (fun e he => by cases he) List.Pairwise.nil
  have hF1 := fun v va W (hv : Tasks W v kS25.tasks) (ha : Evs W va [⟨0, 5, 0, 0⟩]) => auFair_any kS25 v va [⟨0, 5, 0, 0⟩] W hv hq ha (by simp) (fun e he => by simp at he; subst he; unfold evIn; decide) (fun e he _ => by simp at he; subst he; decide) (fun e he h => by simp at he; subst he; cases h) (List.pairwise_singleton _ _)
  have e0 : fairB kS25 [] = true := by decide
  have e1 : fairB kS25 [⟨0, 5, 0, 0⟩] = false := by decide
  have e2 : (ranF ((List.range 2).map (tickL []))).1 = [-1, -1] := by decide
  rw [e2] at hR
  rw [e0] at hF0
  rw [e1] at hF1
  have HR := Lib.hid hR
  have HF0 := Lib.hid hF0
  have HF1 := Lib.hid hF1
  clear hR hF0 hF1 hq e0 e1 e2
  go_enter Try.func12, Try.ntmps12
  go_upto_region 2 with (fail)
  generalize hW : World.alloc _ (.cells _ 24) = W
  have hX : Ext w W := by rw [← hW]; exact ((((Ext.refl w).alloc _).alloc _).alloc _)
  have hI : Blk W w.heap.size #[.int .i64 2] 2 := by rw [← hW]; exact ((Blk.new _ _ _).alloc _).alloc _
  have hT : Blk W (w.heap.size + 1) #[.string (str [97]), .int .i64 5, .int .i64 5, .int .i64 0, .int .i64 0, .int .i64 0, .slice (some ⟨w.heap.size, 0, none⟩) 1 1, .int .u64 0, .int .u64 0] 34 := by rw [← hW]; exact (Blk.new_at _ _ _ _ (by simp)).alloc _
  have hS : Blk W (w.heap.size + 1 + 1) #[.int .i64 0, .slice (some ⟨w.heap.size + 1, 0, none⟩) 1 1] 24 := by rw [← hW]; exact Blk.new_at _ _ _ _ (by simp)
  have hv : Tasks W (.slice (some ⟨w.heap.size + 1, 0, none⟩) 1 1) kS25.tasks := tasks_one' (t := kt25) hT (ints_one' hI)
  have HV := Lib.hid hv
  have HS := Lib.hid hS
  clear hW hI hT hS hv
  go_wp2_with (fail)
  refine (HR.out W).mono ?_
  rintro _ w1 ⟨v1, rfl, hO1, hX1⟩
  obtain ⟨A1, c1, rfl, _, _⟩ := OwnL.form hO1
  have HO1 := Lib.hid hO1
  clear hO1
  go_wp2_with (fail)
  refine (ints2_any _ _ [-1, -1] [-1, -1] _ (RowP.ints (OwnL.alloc HO1.out _)) (ints_two' (Blk.new _ _ _))).mono ?_
  rintro _ w2 ⟨rfl, hb2⟩
  rw [decide_eq_true rfl]
  have hX2 : Ext W w2 := (hX1.alloc _).call hb2
  have hc2 := (HS.out.ext hX2).cell
  have hF2 := HF0.out _ w2 (HV.out.ext hX2)
  unfold setV at hF2
  have HF2 := Lib.hid hF2
  clear hF2
  go_wp2_with (fail)
  refine HF2.out.mono ?_
  rintro _ w3 ⟨rfl, hX3⟩
  have hX23 := hX2.trans hX3
  have hc3 := (HS.out.ext hX23).cell
  clear hc2
  have hF3 := fun va => HF1.out (.slice (some ⟨w.heap.size + 1, 0, none⟩) 1 1) va
  unfold setV at hF3
  have HF3 := Lib.hid hF3
  clear hF3
  go_wp2_with (fail)
  refine (HF3.out _ _ (HV.out.ext (hX23.alloc _)) (evs_blk' (L := [⟨0, 5, 0, 0⟩]) (Blk.new _ _ _) rfl (by decide))).mono ?_
  rintro _ w4 ⟨rfl, hX4⟩
  go_wp2_with (fail)
  go_ret
  exact ⟨rfl, (hX.trans (hX23.alloc _)).trans hX4⟩
end Go.Proofs.Ytlaflbepidkmnaa
/- Au6 -/
namespace Go.Proofs.Ytlaflbepidkmnaa
open Go.RowKit
attribute [local go_sem] setCell_twice ByteArray.toList_eq str_list Ext.alloc Ext.drew
set_option linter.unusedSimpArgs false
set_option linter.unusedVariables false
set_option maxRecDepth 100000
set_option maxHeartbeats 1600000
attribute [local irreducible] Calls

/-- what ends or renews the wait of task t -/
def waitB (t : Int) (x : Ev) : Bool := decide (x.task = t) && (endB x || decide (x.kind = 1))
def doneA (t : Int) (rest : List Ev) : Bool := decide (0 ≤ idxE (waitB t) rest) && endB (evAt rest (idxE (waitB t) rest).toNat)
def metAt (r : List Int) (L : List Ev) (n : Int) (i : Nat) : Bool :=
  if (evAt L i).kind = 1 then (decide (n < (evAt L i).tick + r.getD (evAt L i).task.toNat 0) || doneA (evAt L i).task (L.drop (i + 1)))
  else if endB (evAt L i) = true then decide ((evAt L i).n ≤ r.getD (evAt L i).task.toNat 0) else true
def metB (r : List Int) (L : List Ev) (n : Int) : Bool := (List.range L.length).all (metAt r L n)
theorem isMet1_au (x : Ev) (ge : Nat) (t : Int) (w : World) (he : w.cell? ⟨ge, 2, none⟩ = some (.int .i64 t)) :
    Calls Try.prog 47 #[evA x, .pointer (some ⟨ge, 0, none⟩)] w fun r w' => r = .returned (.bool (waitB t x)) ∧ Ext w w' := by
  obtain ⟨a, k, u, n⟩ := x
  unfold evA waitB
  dsimp only
  rw [show decide (u = t) = (u == t) from rfl, show decide (k = 1) = (k == 1) from rfl]
  go_enter Try.func47, Try.ntmps47
  go_upto_region 1 with (fail)
  have hX := (Ext.refl w).alloc (.cells #[.int .i64 a, .int .i64 k, .int .i64 u, .int .i64 n] 60)
  have hB := Blk.new w #[.int .i64 a, .int .i64 k, .int .i64 u, .int .i64 n] 60
  generalize w.alloc _ = W at hX hB ⊢
  have hc := hB.cell
  have he2 := hX.cell he
  have hEn := ends_au ⟨a, k, u, n⟩ W
  have HB := Lib.hid hB
  have HX := Lib.hid hX
  unfold evA at hEn
  dsimp only at hEn
  clear hX hB he
  cases ht : (u == t) with
  | false =>
    have HT := Lib.hid ht
    go_wp2_with (fail)
    go_ret
    exact ⟨by rw [HT.out]; rfl, HX.out⟩
  | true =>
    have HT := Lib.hid ht
    have HEN := Lib.hid hEn
    clear hEn
    go_wp2_with (fail)
    refine HEN.out.mono ?_
    rintro _ w2 ⟨rfl, hX2⟩
    have hc2 := (HB.out.ext hX2).cell
    clear hc he2
    cases hE : endB ⟨a, k, u, n⟩ with
    | true =>
      have HE := Lib.hid hE
      go_wp2_with (fail)
      go_ret
      exact ⟨by rw [HT.out, HE.out]; rfl, HX.out.trans hX2⟩
    | false =>
      have HE := Lib.hid hE
      cases h1 : (k == 1) with
      | true =>
        have H1 := Lib.hid h1
        go_wp2_with (fail)
        go_ret
        exact ⟨by rw [HT.out, HE.out, H1.out]; rfl, HX.out.trans hX2⟩
      | false =>
        have H1 := Lib.hid h1
        go_wp2_with (fail)
        go_ret
        exact ⟨by rw [HT.out, HE.out, H1.out]; rfl, HX.out.trans hX2⟩
theorem callIsMet1 (args : Array Value) (w : World) : (callFunc 47 args).run Try.prog w = .ok (.enter 47 args) w := by
  go_simp
theorem idx_lt {p : Ev → Bool} {L : List Ev} (h : 0 ≤ idxE p L) : (idxE p L).toNat < L.length := by
  unfold idxE at h ⊢
  cases hf : L.findIdx? p with
  | none => rw [hf] at h; simp at h
  | some i =>
    obtain ⟨hi, _⟩ := List.findIdx?_eq_some_iff_getElem.1 hf
    simpa using hi
theorem isMet_au (e : Ev) (r n : Int) (vb : Value) (rest : List Ev) (w : World) (hb : Evs w vb rest) (he : evIn e) (hr : 0 ≤ r ∧ r ≤ 1099511627776) :
    Calls Try.prog 27 #[evA e, .int .i64 r, vb, .int .i64 n] w fun x w' => x = .returned (.bool (decide (n < e.tick + r) || doneA e.task rest)) ∧ Ext w w' := by
  obtain ⟨A, c, rfl, hc1, hc2⟩ := hb.form
  unfold maxLen at hc2
  obtain ⟨a1, a2, a3, a4, a5, a6⟩ := he
  have hw1 : wrap64 (e.tick + r) = e.tick + r := by unfold wrap64; omega
  have hw2 : IntKind.i64.wrap (e.tick + r) = e.tick + r := by rw [IntKind.wrap_i64]; omega
  have HB := Lib.hid hb
  clear hb
  unfold evA doneA
  go_enter Try.func27, Try.ntmps27
  go_upto_region 1 with (fail)
  have hX := (Ext.refl w).alloc (.cells #[.int .i64 e.tick, .int .i64 e.kind, .int .i64 e.task, .int .i64 e.n] 60)
  have hBe := Blk.new w #[.int .i64 e.tick, .int .i64 e.kind, .int .i64 e.task, .int .i64 e.n] 60
  generalize w.alloc _ = W at hX hBe ⊢
  have hc := hBe.cell
  have hI := index_ev (.slice A rest.length c) rest 47 #[.pointer (some ⟨w.heap.size, 0, none⟩)] (waitB e.task) W (HB.out.ext hX) callIsMet1 (fun w' hx x _ => isMet1_au x _ e.task w' ((hBe.ext hx).cell 2))
  have HI := Lib.hid hI
  have HX := Lib.hid hX
  have hlt := idx_lt (p := waitB e.task) (L := rest)
  have HLT := Lib.hid hlt
  clear hI hX hlt
  cases hd : decide (n < e.tick + r) with
  | true =>
    have HD := Lib.hid hd
    go_wp2_with (fail)
    go_ret
    exact ⟨by rw [HD.out]; rfl, HX.out⟩
  | false =>
    have HD := Lib.hid hd
    generalize hidx : idxE (waitB e.task) rest = i at *
    have HID := Lib.hid hidx
    clear hidx
    go_wp2_with (fail)
    refine HI.out.mono ?_
    rintro _ w2 ⟨rfl, hX2⟩
    clear hc
    cases hi : decide (0 ≤ i) with
    | false =>
      have H0 := Lib.hid hi
      go_wp2_with (fail)
      go_ret
      exact ⟨by rw [HD.out, HID.out, H0.out]; rfl, HX.out.trans hX2⟩
    | true =>
      have H0 := Lib.hid hi
      have h3 := HLT.out (of_decide_eq_true hi)
      obtain ⟨j, rfl⟩ : ∃ j : Nat, i = (j : Int) := ⟨i.toNat, by have := of_decide_eq_true hi; omega⟩
      rw [Int.toNat_natCast] at h3
      obtain ⟨b, o, rfl, hx⟩ := HB.out.at h3
      obtain ⟨x0, x1, x2, x3⟩ := hx w2 (HX.out.trans hX2)
      clear hx
      generalize hex : evAt rest j = x at *
      have HEX := Lib.hid hex
      clear hex
      go_wp2_with (fail)
      refine (ends_au x w2).mono ?_
      rintro _ w3 ⟨rfl, hX3⟩
      go_wp2_with (fail)
      go_ret
      exact ⟨by rw [HD.out, HID.out, H0.out, Int.toNat_natCast, HEX.out]; rfl, HX.out.trans (hX2.trans hX3)⟩
end Go.Proofs.Ytlaflbepidkmnaa
