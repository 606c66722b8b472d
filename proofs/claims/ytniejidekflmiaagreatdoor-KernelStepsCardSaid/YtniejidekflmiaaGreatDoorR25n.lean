/- A region with makers that may come in any order. -/
import Derived.Test.YtniejidekflmiaaGreatDoorProg
import Derived.Test.YtniejidekflmiaaGreatDoorHeldX
import Derived.Test.YtniejidekflmiaaGreatDoorBase
import Derived.Test.YtniejidekflmiaaGreatDoorHeldN
import Derived.Test.YtniejidekflmiaaGreatDoorApp
import Derived.Test.YtniejidekflmiaaGreatDoorExt0
import Derived.Test.YtniejidekflmiaaGreatDoorChg
import Derived.Test.YtniejidekflmiaaGreatDoorRowB
import Derived.Test.YtniejidekflmiaaGreatDoorKM
import Derived.Test.YtniejidekflmiaaGreatDoorKP1
import Derived.Test.YtniejidekflmiaaGreatDoorOpenI
import Derived.Test.YtniejidekflmiaaGreatDoorTskP
import Derived.Test.YtniejidekflmiaaGreatDoorTskA
import Derived.Test.YtniejidekflmiaaGreatDoorTskS
import Derived.Test.YtniejidekflmiaaGreatDoorSetO
import Derived.Test.YtniejidekflmiaaGreatDoorKbit
import Derived.Test.YtniejidekflmiaaGreatDoorKcac
import Derived.Test.YtniejidekflmiaaGreatDoorKpol
import Derived.Test.YtniejidekflmiaaGreatDoorKjob
import Derived.Test.YtniejidekflmiaaGreatDoorKn0
import Derived.Test.YtniejidekflmiaaGreatDoorKker
import Derived.Test.YtniejidekflmiaaGreatDoorKtab
import Derived.Test.YtniejidekflmiaaGreatDoorKat
import Derived.Test.YtniejidekflmiaaGreatDoorKlate
import Derived.Test.YtniejidekflmiaaGreatDoorR18
import Derived.Test.YtniejidekflmiaaGreatDoorR19
import Derived.Test.YtniejidekflmiaaGreatDoorRat
import Derived.Orders
import Derived.Below
import Derived.Tactics
import Derived.Laws.AppendOwn
import Derived.Deep.Cut
import Derived.Lib.Hide
import Derived.OwnWalk
import Derived.Maps.AppendAt
import Derived.BigQuiet
namespace Go.Proofs.YtniejidekflmiaaGreatDoor
section
variable {P : Program} {ops : Array Oper} {S : World → Prop} {R : Act → World → Prop}
/-- o, run in state a and world w, makes something of which G tells -/
def Makes (P : Program) (G : Value → World → Prop) (o : Oper) (a : Act) (w : World) : Prop :=
  match (execOp a.eval o).run P w with
  | .ok (.value u) w' => G u w'
  | .ok (.enter f args) w' => Calls P f args w' fun e w'' => ∃ v, e = .returned v ∧ G v w''
  | _ => False
theorem makes_wp {G : Value → World → Prop} {Q : Exit → Act → World → Prop} {o : Oper} {a : Act} {w : World} {K : Act → World → Prop} (h : Makes P G o a w) (hK : ∀ v w', G v w' → K (a.put o.dst v) w') : o.wp P a w K Q := by
  unfold Makes at h
  unfold Oper.wp
  generalize (execOp a.eval o).run P w = r at h
  cases r with
  | ok x w' =>
    cases x <;> simp only [] at h
    case value u' => exact hK _ _ h
    case enter f args =>
      refine Calls.mono h fun e w'' he => ?_
      obtain ⟨v, rfl, hg⟩ := he
      exact hK _ _ hg
  | halt x w' => exact h.elim
/-- which operations have come up when U are still to come -/
def lxU (n : Nat) (T M U : List Nat) : Array Bool := ((List.range n).map fun i => !T.contains i || (M.contains i && !U.contains i)).toArray
def subs : List Nat → List (List Nat)
  | [] => [[]]
  | x :: l => subs l ++ (subs l).map (x :: ·)
/-- as long as some are to come, only such are ready -/
def makOk (ops : Array Oper) (T M : List Nat) : Bool :=
  decide M.Nodup && M.all (fun i => T.contains i && decide (i < ops.size)) &&
  (subs M).all (fun U => U.isEmpty || (!(Region.ready .any ops (lxU ops.size T M U)).isEmpty && (Region.ready .any ops (lxU ops.size T M U)).all fun i => U.contains i))
theorem mem_subs : ∀ (M U : List Nat), U.Sublist M → U ∈ subs M
  | _, _, .slnil => by simp [subs]
  | _, _, .cons x h => by unfold subs; exact List.mem_append_left _ (mem_subs _ _ h)
  | _, _, .cons_cons x h => by unfold subs; exact List.mem_append_right _ (List.mem_map_of_mem (mem_subs _ _ h))
theorem lxU_get (n : Nat) (T M U : List Nat) (j : Nat) : (lxU n T M U)[j]? = if j < n then some (!T.contains j || (M.contains j && !U.contains j)) else none := by
  unfold lxU
  rw [List.getElem?_toArray, List.getElem?_map]
  by_cases h : j < n
  · rw [if_pos h, List.getElem?_range h]; rfl
  · rw [if_neg h, List.getElem?_eq_none (by simpa using h)]; rfl
theorem lxU_set {n : Nat} {T M U : List Nat} {i : Nat} (hi : i ∈ M) (hU : U.Nodup) (hl : i < n) : (lxU n T M U).setIfInBounds i true = lxU n T M (U.erase i) := by
  refine Array.ext_getElem? fun j => ?_
  rw [Array.getElem?_setIfInBounds, lxU_get, lxU_get]
  have hs : (lxU n T M U).size = n := by simp [lxU]
  by_cases e : i = j
  · subst e
    have h1 : (U.erase i).contains i = false := by
      rw [Bool.eq_false_iff]
      intro h
      exact hU.not_mem_erase (by simpa using h)
    have h2 : M.contains i = true := by simpa using hi
    rw [if_pos rfl, hs, if_pos hl, if_pos hl, h1, h2]
    simp
  · have : (U.erase i).contains j = U.contains j := by
      rw [Bool.eq_iff_iff]
      simp [List.mem_erase_of_ne (Ne.symm e)]
    rw [if_neg e, this]
/-- the makers M, in whatever order, each in a world that has grown: each has made, in its own stretch of the memory -/
theorem wpX_makers {T M : List Nat} {a0 : Act} (G : Nat → Nat → Nat → Value → World → Prop) (hSx : ∀ w w', S w → Ext w w' → S w') (hok : mixOk ops T = true) (hM : makOk ops T M = true)
    (hGx : ∀ i lo hi v w w', G i lo hi v w → Ext w w' → G i lo hi v w') (hlook : ∀ i ∈ M, ∀ o, ops[i]? = some o → o.guard = none ∧ ∀ j ∈ M, ∀ t, dstOf ops j = some t → ¬ t ∈ o.looksAt ops)
    (hmk : ∀ i ∈ M, ∀ o, ops[i]? = some o → ∀ w, S w → Makes P (fun v w' => Ext w w' ∧ G i w.heap.size w'.heap.size v w') o a0 w) {f0 : Nat}
    (hend : ∀ (v : Nat → Value) (r : Nat → Nat × Nat) w, S w → (∀ i ∈ M, G i (r i).1 (r i).2 (v i) w) → (∀ i ∈ M, ∀ j ∈ M, i ≠ j → (r i).2 ≤ (r j).1 ∨ (r j).2 ≤ (r i).1) →
      wpX P ops S R f0 (lxU ops.size T M []) (stP ops v a0 (fun i => M.contains i) ops.size) w) :
    ∀ (m : Nat) (U : List Nat), U.length = m → U.Sublist M → ∀ (v : Nat → Value) (r : Nat → Nat × Nat) w, S w →
      (∀ i ∈ M, i ∉ U → G i (r i).1 (r i).2 (v i) w ∧ (r i).2 ≤ w.heap.size) → (∀ i ∈ M, ∀ j ∈ M, i ∉ U → j ∉ U → i ≠ j → (r i).2 ≤ (r j).1 ∨ (r j).2 ≤ (r i).1) →
      wpX P ops S R (m + f0) (lxU ops.size T M U) (stP ops v a0 (fun i => M.contains i && !U.contains i) ops.size) w := by
  have hM' := hM
  unfold makOk at hM'
  simp only [Bool.and_eq_true, List.all_eq_true, decide_eq_true_eq] at hM'
  obtain ⟨⟨hnd, hmem⟩, hsub⟩ := hM'
  intro m
  induction m with
  | zero =>
    intro U hl hs v r w hS hd hp
    obtain rfl : U = [] := List.eq_nil_of_length_eq_zero hl
    have := hend v r w hS (fun i hi => (hd i hi (by simp)).1) (fun i hi j hj hne => hp i hi j hj (by simp) (by simp) hne)
    rw [Nat.zero_add]
    simpa using this
  | succ m ih =>
    intro U hl hs v r w hS hd hp
    have hne : U ≠ [] := fun e => by rw [e] at hl; cases hl
    have hr := hsub U (mem_subs _ _ hs)
    rw [Bool.or_eq_true] at hr
    have hr := hr.resolve_left (by simpa using hne)
    simp only [Bool.and_eq_true, Bool.not_eq_true', List.all_eq_true] at hr
    obtain ⟨hr1, hr2⟩ := hr
    have hUn : U.Nodup := hs.nodup hnd
    rw [show m + 1 + f0 = (m + f0) + 1 by omega]
    refine ⟨fun h0 => (by rw [h0] at hr1; cases hr1), fun i hi w' hx => ?_⟩
    have hiU : i ∈ U := by simpa using hr2 i hi
    have hiM : i ∈ M := hs.subset hiU
    have hlt : i < ops.size := (hmem i hiM).2
    obtain ⟨o, ho⟩ : ∃ o, ops[i]? = some o := ⟨_, Array.getElem?_eq_getElem hlt⟩
    obtain ⟨hg, hlk⟩ := hlook i hiM o ho
    have hsel : ∀ cs b, o.op ≠ .select cs b := (Region.noSelect_spec (mix_sel hok) i o · · ho)
    have hev : execOp (stP ops v a0 (fun i => M.contains i && !U.contains i) ops.size).eval o = execOp a0.eval o := same_eval hsel (fun t ht => stP_none _ (fun j hj hL hdj => by
      rw [Bool.and_eq_true] at hL
      exact hlk j (by simpa using hL.1) t hdj ht))
    unfold wpOp
    simp only [ho]
    rw [show Region.wanted o (yielded ops (stP ops v a0 (fun i => M.contains i && !U.contains i) ops.size).tmps) = true by simp [Region.wanted, hg], if_pos rfl]
    have hmake := hmk i hiM o ho w' (hSx _ _ hS hx)
    refine .inl (makes_wp (G := fun v w2 => Ext w' w2 ∧ G i w'.heap.size w2.heap.size v w2) (by unfold Makes at hmake ⊢; rw [hev]; exact hmake) fun u w2 ⟨hx2, hG⟩ => ⟨hSx _ _ (hSx _ _ hS hx) hx2, ?_⟩)
    have hput := stP_put (v := fun j => if j = i then u else v j) (a0 := a0) (mix_dst hok) ho (L := fun i => M.contains i && !U.contains i) (L' := fun j => M.contains j && !(U.erase i).contains j) (fun j => by
      by_cases e : j = i
      · subst e
        have h1 : (U.erase j).contains j = false := by
          rw [Bool.eq_false_iff]
          intro h
          exact hUn.not_mem_erase (by simpa using h)
        rw [h1]
        simp [hiM]
      · have : (U.erase i).contains j = U.contains j := by
          rw [Bool.eq_iff_iff]
          simp [List.mem_erase_of_ne e]
        rw [this]
        simp [e])
    rw [if_pos rfl] at hput
    have hcong : stP ops (fun j => if j = i then u else v j) a0 (fun i => M.contains i && !U.contains i) ops.size = stP ops v a0 (fun i => M.contains i && !U.contains i) ops.size :=
      stP_congr _ (fun _ _ => rfl) (fun j _ hL => by
        have : j ≠ i := fun e => by
          subst e
          rw [Bool.and_eq_true] at hL
          simp [hiU] at hL
        simp [this])
    rw [hcong] at hput
    rw [hput, lxU_set hiM hUn hlt]
    have hnotin : ∀ j, j ∉ U.erase i → j ≠ i → j ∉ U := fun j hj hne hm => hj ((List.mem_erase_of_ne hne).2 hm)
    refine ih (U.erase i) (by rw [List.length_erase_of_mem hiU]; omega) ((List.erase_sublist).trans hs) _ (fun j => if j = i then (w'.heap.size, w2.heap.size) else r j) w2 (hSx _ _ (hSx _ _ hS hx) hx2) (fun j hj hjn => ?_) (fun j hj k hk hjn hkn hne => ?_)
    · by_cases e : j = i
      · subst e; simp only [if_true]; exact ⟨hG, Nat.le_refl _⟩
      · simp only [e, if_false]
        have := hd j hj (hnotin j hjn e)
        exact ⟨hGx _ _ _ _ _ _ this.1 (hx.trans hx2), Nat.le_trans this.2 (hx.trans hx2).size⟩
    · have hb : ∀ q ∈ M, q ∉ U.erase i → q ≠ i → (r q).2 ≤ w'.heap.size := fun q hq hqn hqi => Nat.le_trans (hd q hq (hnotin q hqn hqi)).2 hx.size
      by_cases e : j = i
      · subst e
        have hki : k ≠ j := fun e => hne e.symm
        simp only [if_true, hki, if_false]
        exact .inr (hb k hk hkn hki)
      · by_cases e2 : k = i
        · subst e2
          simp only [if_true, e, if_false]
          exact .inl (hb j hj hjn e)
        · simp only [e, e2, if_false]
          exact hp j hj k hk (hnotin j hjn e) (hnotin k hkn e2) hne
/-- no maker looks at what another made -/
def lookOk (ops : Array Oper) (M : List Nat) : Bool := M.all fun i => match ops[i]? with
  | none => false
  | some o => o.guard.isNone && M.all fun j => match dstOf ops j with
    | none => true
    | some t => !(o.looksAt ops).contains t
theorem lookOk_spec {M : List Nat} (h : lookOk ops M = true) : ∀ i ∈ M, ∀ o, ops[i]? = some o → o.guard = none ∧ ∀ j ∈ M, ∀ t, dstOf ops j = some t → ¬ t ∈ o.looksAt ops := by
  intro i hi o ho
  unfold lookOk at h
  rw [List.all_eq_true] at h
  have h1 := h i hi
  rw [ho] at h1
  dsimp only at h1
  rw [Bool.and_eq_true, List.all_eq_true] at h1
  refine ⟨by simpa using h1.1, fun j hj t ht hm => ?_⟩
  have h2 := h1.2 j hj
  rw [ht] at h2
  dsimp only at h2
  have : (o.looksAt ops).contains t = true := by simpa using hm
  rw [this] at h2
  cases h2
end
end Go.Proofs.YtniejidekflmiaaGreatDoor
/- The document's kernel: New. -/
namespace Go.Proofs.YtniejidekflmiaaGreatDoor
open Go.RowKit
attribute [local go_sem] setCell_twice Ext.alloc Ext.drew
set_option linter.unusedSimpArgs false
set_option linter.unusedVariables false
set_option maxRecDepth 100000
set_option maxHeartbeats 1600000
attribute [local irreducible] Calls

theorem flat_rep {α : Type} (enc : α → List Value) (x : α) (v : Value) (h : enc x = [v]) (n : Nat) : ((List.replicate n x).flatMap enc).toArray = Array.replicate n v := by
  refine Array.ext' ?_
  rw [Array.toList_replicate]
  show (List.replicate n x).flatMap enc = _
  induction n with
  | zero => rfl
  | succ n ih => rw [List.replicate_succ, List.flatMap_cons, h, ih, List.replicate_succ]; rfl
theorem infoJp1 : (Tryz.prog.info? 148).map (fun i => (i.zero, i.size, i.bytes)) = some (some (.pointer none), 1, 8) := by kernel_rfl
theorem infoU1 : (Tryz.prog.info? 36).map (fun i => (i.zero, i.size, i.bytes)) = some (some (.int .u64 0), 1, 8) := by kernel_rfl
theorem make_jp {n : Nat} (h : n ≤ 8) (w : World) : (Instr.makeSlice 59 (.int .i64 n) (.int .i64 n)).run Tryz.prog w = .ok (.slice (some ⟨w.heap.size, 0, none⟩) n n) (w.alloc (.cells ((List.replicate n (none : Option Nat)).flatMap encJp).toArray 148)) := by
  obtain ⟨i, hi, hz0, hz1, hz2⟩ := info_parts infoJp1
  have := run_make w 59 148 i (.pointer none) Tryz.underlying59 hi hz0 .i64 .i64 n n (by omega) (Int.le_refl _) (by rw [hz2]; omega) (by omega)
  rw [hz1, Int.toNat_natCast, Nat.mul_one] at this
  rw [this, flat_rep encJp _ (.pointer none) rfl]
  have e : madeCells (.pointer none : Value).cells n = Array.replicate n (.pointer none) := by
    refine Array.ext' ?_
    show (madeCells #[(.pointer none : Value)] n).toList = _
    rw [toList_madeCells_one]
    simp
  rw [e]
theorem make_u1 {n : Nat} (h : n ≤ 8) (w : World) : (Instr.makeSlice 61 (.int .i64 n) (.int .i64 n)).run Tryz.prog w = .ok (.slice (some ⟨w.heap.size, 0, none⟩) n n) (w.alloc (.cells ((List.replicate n 0).flatMap encH).toArray 36)) := by
  obtain ⟨i, hi, hz0, hz1, hz2⟩ := info_parts infoU1
  have := run_make w 61 36 i (.int .u64 0) Tryz.underlying61 hi hz0 .i64 .i64 n n (by omega) (Int.le_refl _) (by rw [hz2]; omega) (by omega)
  rw [hz1, Int.toNat_natCast, Nat.mul_one] at this
  rw [this, flat_rep encH _ (.int .u64 0) rfl]
  have e : madeCells (.int .u64 0 : Value).cells n = Array.replicate n (.int .u64 0) := by
    refine Array.ext' ?_
    show (madeCells #[(.int .u64 0 : Value)] n).toList = _
    rw [toList_madeCells_one]
    simp
  rw [e]
theorem make_i1 {n : Nat} (h : n ≤ 8) (w : World) : (Instr.makeSlice 35 (.int .i64 n) (.int .i64 n)).run Tryz.prog w = .ok (.slice (some ⟨w.heap.size, 0, none⟩) n n) (w.alloc (.cells ((List.replicate n (0 : Int)).flatMap encI).toArray 2)) := by
  obtain ⟨i, hi, hz0, hz1, hz2⟩ := info_parts infoI64
  have := run_make w 35 2 i (.int .i64 0) Tryz.underlying35 hi hz0 .i64 .i64 n n (by omega) (Int.le_refl _) (by rw [hz2]; omega) (by omega)
  rw [hz1, Int.toNat_natCast, Nat.mul_one] at this
  rw [this, flat_rep encI _ (.int .i64 0) rfl]
  have e : madeCells (.int .i64 0 : Value).cells n = Array.replicate n (.int .i64 0) := by
    refine Array.ext' ?_
    show (madeCells #[(.int .i64 0 : Value)] n).toList = _
    rw [toList_madeCells_one]
    simp
  rw [e]
/-- what each maker of New's region makes -/
def MkG (s : TSet) (i lo hi : Nat) (v : Value) (w : World) : Prop :=
  if i = 1 then ∃ v' ps, v = setV s v' ∧ PutOwn w lo v' ps ∧ ps.map (·.1) = s.tasks ∧ (∀ q, v'.ownBlock = some q → q < hi) ∧ ∀ p ∈ ps, ∀ q, p.2.ownBlock = some q → q < hi
  else if i = 3 then ∃ g, v = .slice (some ⟨g, 0, none⟩) s.tasks.length s.tasks.length ∧ RowBk encJp w g 148 (List.replicate s.tasks.length none) ∧ lo ≤ g ∧ g < hi
  else if i = 5 then ∃ gt g, v = .pointer (some ⟨gt, 0, none⟩) ∧ TabAt 71 w gt g (List.replicate s.tasks.length St.zero) ∧ lo ≤ gt ∧ lo ≤ g ∧ g < hi
  else if i = 7 then ∃ g, v = .slice (some ⟨g, 0, none⟩) s.tasks.length s.tasks.length ∧ RowBk encH w g 36 (List.replicate s.tasks.length 0) ∧ lo ≤ g ∧ g < hi
  else if i = 9 then ∃ g, v = .slice (some ⟨g, 0, none⟩) s.tasks.length s.tasks.length ∧ RowBk encI w g 2 (List.replicate s.tasks.length 0) ∧ lo ≤ g ∧ g < hi
  else if i = 11 then ∃ g, v = .pointer (some ⟨g, 0, none⟩) ∧ CacheR w g (List.replicate 64 0) ∧ lo ≤ g ∧ g < hi
  else ∃ gp va vb, v = .pointer (some ⟨gp, 0, none⟩) ∧ Pol19 w gp va vb ((s.tasks.map (·.T)).map fun t => (t, -1)) ∧ lo ≤ gp ∧ (∀ q, va.ownBlock = some q → lo ≤ q ∧ q < hi) ∧ (∀ q, vb.ownBlock = some q → lo ≤ q ∧ q < hi)
theorem MkG.ext {s : TSet} (i lo hi : Nat) (v : Value) (w w' : World) (h : MkG s i lo hi v w) (hx : Ext w w') : MkG s i lo hi v w' := by
  unfold MkG at h ⊢
  by_cases e1 : i = 1
  · rw [if_pos e1] at h ⊢
    obtain ⟨v', ps, e, h1, h2, h3, h4⟩ := h
    exact ⟨v', ps, e, h1.ext hx, h2, h3, h4⟩
  rw [if_neg e1] at h ⊢
  by_cases e3 : i = 3
  · rw [if_pos e3] at h ⊢
    obtain ⟨g, e, h1, h2⟩ := h
    exact ⟨g, e, h1.ext hx, h2⟩
  rw [if_neg e3] at h ⊢
  by_cases e5 : i = 5
  · rw [if_pos e5] at h ⊢
    obtain ⟨gt, g, e, h1, h2⟩ := h
    exact ⟨gt, g, e, h1.ext hx, h2⟩
  rw [if_neg e5] at h ⊢
  by_cases e7 : i = 7
  · rw [if_pos e7] at h ⊢
    obtain ⟨g, e, h1, h2⟩ := h
    exact ⟨g, e, h1.ext hx, h2⟩
  rw [if_neg e7] at h ⊢
  by_cases e9 : i = 9
  · rw [if_pos e9] at h ⊢
    obtain ⟨g, e, h1, h2⟩ := h
    exact ⟨g, e, h1.ext hx, h2⟩
  rw [if_neg e9] at h ⊢
  by_cases e11 : i = 11
  · rw [if_pos e11] at h ⊢
    obtain ⟨g, e, h1, h2⟩ := h
    exact ⟨g, e, h1.ext hx, h2⟩
  rw [if_neg e11] at h ⊢
  obtain ⟨gp, va, vb, e, h1, h2⟩ := h
  exact ⟨gp, va, vb, e, h1.ext hx, h2⟩
theorem polR_init (s : TSet) : polL s (initK s) = (s.tasks.map (·.T)).map fun t => (t, (-1 : Int)) := by
  unfold polL
  refine List.ext_getElem (by simp) fun i h1 h2 => ?_
  have hi : i < s.tasks.length := by simpa using h1
  simp only [List.getElem_map, List.getElem_range]
  have e : (initK s).pol.getD i (-1) = -1 := by simp [initK, List.getD, hi]
  rw [e, tk_at s hi]
theorem new_r25 (s : TSet) (v : Value) (w : World) (hv : Tasks w v s.tasks) (hf : s.fit) (hAll : ∀ w', Ext w w' → Calls Tryz.prog 6 #[setV s v] w' fun e w2 => e = .returned (.bool true) ∧ Below w'.heap.size w' w2) (hs : KH s) :
    Calls Tryz.prog 15 #[setV s v] w fun e w' => ∃ b, e = .returned (.tuple #[.pointer (some ⟨b.gk, 0, none⟩), .int .i64 0]) ∧ (∃ ev os, RAt b w.heap.size w' s (initK s) ev os ∧ ∀ q, footR b os ev q → w.heap.size ≤ q) ∧ Ext w w' := by
  obtain ⟨A, c, rfl, hcc, hcm, hxx⟩ := id hv
  clear hxx
  have hn8 := hs.len
  unfold maxLen at hcm
  have hX1 := (Ext.refl w).alloc (.cells #[.int .i64 s.reload, .slice A s.tasks.length c] 24)
  have hB1 := Blk.new w #[.int .i64 s.reload, .slice A s.tasks.length c] 24
  unfold setV at hAll ⊢
  have HAll := Lib.hid hAll
  have HV := Lib.hid hv
  clear hAll hv
  go_enter Tryz.func15, Tryz.ntmps15
  go_wp2_with (fail)
  refine (HAll.out _ hX1).mono ?_
  rintro e W ⟨rfl, hb1⟩
  have hXW := hX1.call hb1
  have hBW := hB1.ext ⟨hb1⟩
  have hc : ∀ w', Ext W w' → ∀ j, w'.cell? ⟨w.heap.size, j, none⟩ = #[.int .i64 s.reload, .slice A s.tasks.length c][j]? := fun w' hx => (hBW.ext hx).cell
  have hc0 := hc W (Ext.refl W)
  clear hX1 hB1 hb1
  generalize hgs : w.heap.size = g0 at *
  have hsW := hXW.size
  go_wp2_with (fail)
  go_loopw [5, 6] (fun u i wr => ∃ k : Nat, k ≤ s.tasks.length ∧ i = .int .i64 k ∧ Ext W wr ∧ RowI wr W.heap.size u ((s.tasks.map (·.T)).take k)) (fun _ i _ => s.tasks.length - (intOf i).toNat)
  case atStart => exact ⟨0, by omega, rfl, Ext.refl W, OwnL.nil⟩
  case round =>
    obtain ⟨k, hk, rfl, hX, hO⟩ := hrel
    have hcr := hc wr hX
    by_cases hlt : k < s.tasks.length
    · obtain ⟨b2, o2, r, rfl, hat⟩ := (HV.out.ext (hXW.trans hX)).at hlt
      have hT := hat.under.2.1 wr (Ext.refl wr)
      have hlt2 : k < (s.tasks.map (·.T)).length := by rw [List.length_map]; exact hlt
      have HE := Lib.hid (show (s.tasks.map (·.T)).take (k + 1) = (s.tasks.map (·.T)).take k ++ [s.tasks[k].T] by rw [List.take_succ_eq_append_getElem hlt2, List.getElem_map])
      have HL := Lib.hid (show ((s.tasks.map (·.T)).take k).length ≤ 8 by rw [List.length_take]; omega)
      clear hat hlt2
      generalize s.tasks[k].T = x at *
      generalize (s.tasks.map (·.T)).take k = xs at *
      obtain ⟨n5, A5, c5, rfl⟩ := own_sl hO
      have HO := Lib.hid hO
      clear hO
      go_wp2_with (at_builtin; (refine wpList_push rfl _ _ 35 rfl W.heap.size 2 Tryz.underlying35 infoI64 rfl (by decide) (by decide) encI xs _ rfl (OwnL.alloc HO.out _) x wr.heap.size #[.int .i64 x] 2 rfl (Blk.new _ _ _) rfl rfl (encI_one _) ?_ ?_ ?_; (· have := HL.out; omega); (· have := hX.size; simp; omega); (intro v4 w4 hown hg4 hloc _)))
      exact ⟨⟨k + 1, hlt, rfl, (hX.alloc _).grown hg4 (fun j hj => (OwnL.lt HO.out j hj).1), by rw [HE.out]; exact hown⟩, by simp [intOf]; omega⟩
    · obtain rfl : k = s.tasks.length := by omega
      rw [show (s.tasks.map (·.T)).take s.tasks.length = s.tasks.map (·.T) from List.take_of_length_le (by rw [List.length_map]; exact Nat.le_refl _)] at hO
      obtain ⟨n5, A5, c5, rfl⟩ := own_sl hO
      have hc9 : ∀ w', Ext wr w' → ∀ j, w'.cell? ⟨g0, j, none⟩ = #[.int .i64 s.reload, .slice A s.tasks.length c][j]? := fun w' hx => hc w' (hX.trans hx)
      clear hc0
      go_upto_region 9 with (fail)
      refine wp_region_mix (T := [1, 3, 5, 7, 9, 11, 13, 14, 15, 16]) (S := Ext wr) (W := wr) (Ext.mono wr) (by kernel_rfl) (by kernel_rfl) (Ext.refl wr).drew (Ext.refl wr) (fun _ _ h => h) (fun K hK => ?_)
      (repeat (first | (refine hX_skip ?_ ?_; (· rfl)) | (apply hX_and; (· rfl); (· rfl); (· rfl); (· rfl); (· rfl); simp only [Act.put, List.setIfInBounds_toArray, List.set_cons_zero, List.set_cons_succ]) | (apply hX_or; (· rfl); (· rfl); (· rfl); (· rfl); (· rfl); simp only [Act.put, List.setIfInBounds_toArray, List.set_cons_zero, List.set_cons_succ]) | (apply hX_off; (· rfl); (· rfl); (· rfl); simp only [Act.put, List.setIfInBounds_toArray, List.set_cons_zero, List.set_cons_succ]) | (apply hX_val; (· rfl); (· intro w hS; go_simp; with_reducible rfl); (· rfl); simp only [Act.put, List.setIfInBounds_toArray, List.set_cons_zero, List.set_cons_succ]) | (apply hX_call; (· rfl); (· rfl); (· intro w hS; go_simp; exact ⟨rfl, rfl⟩); (· intro w hS; fail); simp only [Act.put, List.setIfInBounds_toArray, List.set_cons_zero, List.set_cons_succ]) | (apply hX_if; (· rfl); (· rfl); (· rfl); (· intro hif w hS; go_simp; with_reducible rfl); simp only [Act.put, List.setIfInBounds_toArray, List.set_cons_zero, List.set_cons_succ]) | (apply hX_ifcall; (· rfl); (· rfl); (· rfl); (· intro hif w hS; go_simp; exact ⟨rfl, rfl⟩); (· intro hif w hS; fail); simp only [Act.put, List.setIfInBounds_toArray, List.set_cons_zero, List.set_cons_succ]))); refine hX_nil ?_
      refine hK _ ?_
      clear hK K
      refine wpX_makers (T := [1, 3, 5, 7, 9, 11, 13, 14, 15, 16]) (M := [1, 3, 5, 7, 9, 11, 13]) (fun i lo hi v w' => g0 ≤ lo ∧ MkG s i lo hi v w') (Ext.mono wr) (by kernel_rfl) (by kernel_rfl) (fun i lo hi v w w' h hx => ⟨h.1, MkG.ext i lo hi v w w' h.2 hx⟩) (lookOk_spec (by kernel_rfl)) ?_ (f0 := 3) ?_ 7 [1, 3, 5, 7, 9, 11, 13] rfl (List.Sublist.refl _) (fun _ => undef) (fun _ => (0, 0)) wr (Ext.refl wr) (by simp) (by simp)
      · intro i hi o ho w2 hw2
        simp only [List.mem_cons, List.not_mem_nil, or_false] at hi
        have hcw := hc9 w2 hw2
        have hg2 : g0 ≤ w2.heap.size := Nat.le_trans (hgs ▸ hsW) (Nat.le_trans hX.size hw2.size)
        rcases hi with rfl | rfl | rfl | rfl | rfl | rfl | rfl
        · obtain rfl := (Option.some.inj ho).symm
          have hPut := put_any s (.slice A s.tasks.length c) w2 (HV.out.ext (hXW.trans (hX.trans hw2))) hf
          unfold setV at hPut
          unfold Makes
          go_simp
          refine hPut.mono ?_
          rintro e w3 ⟨v', ps, rfl, hP, hps, hb3⟩
          exact ⟨_, rfl, ⟨hb3⟩, v', ps, rfl, hP, hps, fun q hq => (OwnL.lt hP.1 q hq).2, fun p hp q hq => (OwnL.lt (hP.2.1 p hp) q hq).2⟩
        · obtain rfl := (Option.some.inj ho).symm
          have hmk := make_jp hn8.2 w2
          unfold Makes
          go_simp
          exact ⟨(Ext.refl w2).alloc _, w2.heap.size, rfl, Blk.new _ _ _, Nat.le_refl _, by omega⟩
        · obtain rfl := (Option.some.inj ho).symm
          unfold Makes
          go_simp
          refine (new_r21 s.tasks.length w2 hn8).mono ?_
          rintro e w3 ⟨gt, g, rfl, hT, l1, l2, hX3⟩
          exact ⟨_, rfl, hX3, gt, g, rfl, hT, l1, l2, Blk.lt hT.row⟩
        · obtain rfl := (Option.some.inj ho).symm
          have hmk := make_u1 hn8.2 w2
          unfold Makes
          go_simp
          exact ⟨(Ext.refl w2).alloc _, w2.heap.size, rfl, Blk.new _ _ _, Nat.le_refl _, by omega⟩
        · obtain rfl := (Option.some.inj ho).symm
          have hmk := make_i1 hn8.2 w2
          unfold Makes
          go_simp
          exact ⟨(Ext.refl w2).alloc _, w2.heap.size, rfl, Blk.new _ _ _, Nat.le_refl _, by omega⟩
        · obtain rfl := (Option.some.inj ho).symm
          unfold Makes
          go_simp
          exact ⟨(Ext.refl w2).alloc _, w2.heap.size, rfl, ⟨Blk.new _ _ _, by simp⟩, Nat.le_refl _, by omega⟩
        · obtain rfl := (Option.some.inj ho).symm
          unfold Makes
          go_simp
          have hI2 : Ints w2 (.slice A5 n5 c5) (s.tasks.map (·.T)) := RowI.ints (show RowI w2 W.heap.size (.slice A5 n5 c5) (s.tasks.map (·.T)) from OwnL.below (show OwnL encI wr W.heap.size 2 1 (.slice A5 n5 c5) (s.tasks.map (·.T)) from hO) hw2.below)
          refine (new_r19 (s.tasks.map (·.T)) _ w2 hI2 (by rw [List.length_map]; exact hn8.2) (fun x hx => by
            obtain ⟨t, ht, rfl⟩ := List.mem_map.1 hx
            obtain ⟨i, hi, rfl⟩ := List.mem_iff_getElem.1 ht
            have := hs.T i hi
            rw [tk_at s hi] at this
            omega)).mono ?_
          rintro e w3 ⟨gp, va, vb, rfl, hP, hTwo⟩
          exact ⟨_, rfl, hTwo.ext, gp, va, vb, rfl, hP, hTwo.ge, fun q hq => OwnL.lt hTwo.a q hq, fun q hq => OwnL.lt hTwo.b q hq⟩
      · intro v r w2 hw2 hG hap
        have g1 := hG 1 (by simp)
        have g3 := hG 3 (by simp)
        have g5 := hG 5 (by simp)
        have g7 := hG 7 (by simp)
        have g9 := hG 9 (by simp)
        have g11 := hG 11 (by simp)
        have g13 := hG 13 (by simp)
        obtain ⟨low1, v', ps, e1, hP, hps, hv1, hv2⟩ := g1
        obtain ⟨low3, gj, e3, hJ, hj1, hj2⟩ := g3
        obtain ⟨low5, gt, gs, e5, hTb, ht1, ht2, ht3⟩ := g5
        obtain ⟨low7, gh, e7, hH, hh1, hh2⟩ := g7
        obtain ⟨low9, gl, e9, hL, hl1, hl2⟩ := g9
        obtain ⟨low11, gc, e11, hC, hc1, hc2⟩ := g11
        obtain ⟨low13, gp, va, vb, e13, hPo, hp1, hp2, hp3⟩ := g13
        simp only [stP, List.getElem?_toArray, List.getElem?_cons_zero, List.getElem?_cons_succ, List.size_toArray, List.length_cons, List.length_nil]
        unfold setV at e1
        simp only [lxU, e1, e3, e5, e7, e9, e11, e13, Act.put]
        refine wpX_want (i := 14) (by kernel_rfl) rfl (by simp [Region.wanted, yielded]) ?_
        intro w4 hx4 K hK
        go_simp
        refine hK _ _ (hw2.trans hx4) ?_
        clear hK K
        refine wpX_want (i := 15) (by kernel_rfl) rfl (by simp [Region.wanted, yielded]) ?_
        intro w5 hx5 K hK
        go_simp
        have hKB := Blk.new w5 #[.int .i64 s.reload, v', .int .i64 0, .int .i64 (-1), .int .i64 (-1), .slice (some ⟨gj, 0, none⟩) s.tasks.length s.tasks.length, .pointer (some ⟨gt, 0, none⟩), .slice (some ⟨gh, 0, none⟩) s.tasks.length s.tasks.length, .slice (some ⟨gl, 0, none⟩) s.tasks.length s.tasks.length, .pointer (some ⟨gc, 0, none⟩), .pointer (some ⟨gp, 0, none⟩), .slice none 0 0] 65
        have hx6 := (hx4.trans hx5).alloc (.cells #[.int .i64 s.reload, v', .int .i64 0, .int .i64 (-1), .int .i64 (-1), .slice (some ⟨gj, 0, none⟩) s.tasks.length s.tasks.length, .pointer (some ⟨gt, 0, none⟩), .slice (some ⟨gh, 0, none⟩) s.tasks.length s.tasks.length, .slice (some ⟨gl, 0, none⟩) s.tasks.length s.tasks.length, .pointer (some ⟨gc, 0, none⟩), .pointer (some ⟨gp, 0, none⟩), .slice none 0 0] 65)
        refine hK _ _ (hw2.trans hx6) ?_
        clear hK K
        have hgk : g0 ≤ w5.heap.size := Nat.le_trans (hgs ▸ hsW) (Nat.le_trans hX.size (Nat.le_trans hw2.size (Nat.le_trans hx4.size hx5.size)))
        generalize w5.heap.size = gk at hKB hgk ⊢
        generalize w5.alloc _ = w6 at hKB hx6 ⊢
        refine wpX_want (i := 16) (by kernel_rfl) rfl (by simp [Region.wanted, yielded]) ?_
        intro w7 hx7 K hK
        go_simp
        refine hK _ _ (hw2.trans (hx6.trans hx7)) ?_
        clear hK K
        refine wpX_done (by kernel_rfl) (fun w8 hx8 => ?_) _
        have hX8 := (hx6.trans hx7).trans hx8
        have hKB8 := hKB.ext (hx7.trans hx8)
        have hxE := hXW.trans (hX.trans (hw2.trans hX8))
        go_wp2_with (fail)
        refine bodyPost_ret (v := .tuple #[.pointer (some ⟨gk, 0, none⟩), .int .i64 0]) (by simp [results, Tryz.results15, go_sem]) rfl ?_
        refine ⟨⟨gk, gp, gc, gt, gs, gj, gh, gl, w8.heap.size, v', va, vb, ps⟩, rfl, ⟨.slice none 0 0, List.replicate s.tasks.length none, ?_, ?_⟩, hxE⟩
        · have hno : ∀ i, opAt (List.replicate s.tasks.length (none : Option Nat)) i = none := fun i => by
            unfold opAt
            simp only [List.getD, List.getElem?_replicate]
            split <;> rfl
          have hPo8 := hPo.ext hX8
          have a19 := hap 1 (by simp) 9 (by simp) (by decide)
          have a1p := hap 1 (by simp) 13 (by simp) (by decide)
          have ap9 := hap 13 (by simp) 9 (by simp) (by decide)
          exact {
            box := hKB8
            trow := OwnL.lower (OwnL.below hP.1 hX8.below) (Nat.zero_le _)
            regs := fun p hp => OwnL.lower (OwnL.below (hP.2.1 p hp) hX8.below) (Nat.zero_le _)
            eq := hps
            pol := by rw [polR_init]; exact hPo8
            cache := hC.ext hX8
            tab := hTb.ext hX8
            jrow := hJ.ext hX8
            hrow := hH.ext hX8
            lrow := hL.ext hX8
            jl := List.length_replicate
            hl := List.length_replicate
            ll := List.length_replicate
            jobs := fun i hi g hg => by rw [hno] at hg; cases hg
            sep := fun i j hi hj hne g hg => by rw [hno] at hg; cases hg
            evs := OwnL.nil
            low := ⟨Blk.lt (hL.ext hX8), fun q hq => (OwnL.lt hPo8.l q hq).2⟩
            bas := Nat.le_refl _
            apR := fun p hp q hq => by
              have h1 := OwnL.lt (hP.2.1 p hp) q hq
              have h2 := hv2 p hp q hq
              refine ⟨fun e => by have e : q = gl := e; omega, fun e => ?_⟩
              have h3 := hp3 q e
              omega
            apA := fun q hq e => by
              have h3 := hp2 q hq
              have e : q = gl := e
              omega
            apB := fun e => by
              have h3 := hp3 gl e
              omega }
        · intro q hq
          have hno : ∀ i, opAt (List.replicate s.tasks.length (none : Option Nat)) i = none := fun i => by
            unfold opAt
            simp only [List.getD, List.getElem?_replicate]
            split <;> rfl
          rcases hq with h | h | h | h | h | h | h | h | ⟨i, h⟩
          · have h : q = gk := h
            omega
          · have h : q = gs := h
            omega
          · have h : q = gc := h
            omega
          · have h : q = gj := h
            omega
          · have h : q = gh := h
            omega
          · have h : q = gl := h
            omega
          · have := (hp3 q h).1
            omega
          · cases h
          · rw [hno] at h; cases h
end Go.Proofs.YtniejidekflmiaaGreatDoor
