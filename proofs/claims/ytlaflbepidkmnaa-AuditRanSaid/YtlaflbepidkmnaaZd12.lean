/- Lemmas: A region with makers that may come in any order; The kernel: what is read off it; The program's kernel and the document's, side by side in one memory; Law 27: the document's kernel, run; audit: small functions; audit: ticks; audit: Ran; audit: the watch. -/
import Derived.Test.YtlaflbepidkmnaaProg
import Derived.Test.YtlaflbepidkmnaaZd11
import Derived.Orders
import Derived.Below
import Derived.Tactics
import Derived.Laws.AppendOwn
import Derived.Deep.Cut
import Derived.Lib.Hide
import Derived.OwnWalk
import Derived.Maps.AppendAt
import Derived.BigQuiet
import Derived.Maps.RangeWalk
import Derived.Maps.OwnSet
import Derived.Maps.OwnOps
/- R25n -/
namespace Go.Proofs.Ytlaflbepidkmnaa
section
variable {P : Program} {ops : Array Oper} {S : World → Prop} {R : Act → World → Prop}
/-- o, run in state a and world w, makes something of which G tells -/
def Makes (P : Program) (G : Value → World → Prop) (o : Oper) (a : Act) (w : World) : Prop :=
  match (execOp a.eval o).run P w with
  | .ok (.value u) w' => G u w'
  | .ok (.enter f args) w' => Calls P f args w' fun e w'' => ∃ v, e = .returned v ∧ G v w''
  | _ => False
theorem makes_wp {G : Value → World → Prop} {Q : Exit → Act → World → Prop} {o : Oper} {a : Act} {w : World} {K : Act → World → Prop} (h : Makes P G o a w) (hK : ∀ v w', G v w' → K (a.put o.dst v) w') : o.wp P a w K Q := by
  unfold Makes at h
  unfold Oper.wp
  generalize (execOp a.eval o).run P w = r at h
  cases r with
  | ok x w' =>
    cases x <;> simp only [] at h
    case value u' => exact hK _ _ h
    case enter f args =>
      refine Calls.mono h fun e w'' he => ?_
      obtain ⟨v, rfl, hg⟩ := he
      exact hK _ _ hg
  | halt x w' => exact h.elim
/-- which operations have come up when U are still to come -/
def lxU (n : Nat) (T M U : List Nat) : Array Bool := ((List.range n).map fun i => !T.contains i || (M.contains i && !U.contains i)).toArray
def subs : List Nat → List (List Nat)
  | [] => [[]]
  | x :: l => subs l ++ (subs l).map (x :: ·)
/-- as long as some are to come, only such are ready -/
def makOk (ops : Array Oper) (T M : List Nat) : Bool :=
  decide M.Nodup && M.all (fun i => T.contains i && decide (i < ops.size)) &&
  (subs M).all (fun U => U.isEmpty || (!(Region.ready .any ops (lxU ops.size T M U)).isEmpty && (Region.ready .any ops (lxU ops.size T M U)).all fun i => U.contains i))
theorem mem_subs : ∀ (M U : List Nat), U.Sublist M → U ∈ subs M
  | _, _, .slnil => by simp [subs]
  | _, _, .cons x h => by unfold subs; exact List.mem_append_left _ (mem_subs _ _ h)
  | _, _, .cons_cons x h => by unfold subs; exact List.mem_append_right _ (List.mem_map_of_mem (mem_subs _ _ h))
theorem lxU_get (n : Nat) (T M U : List Nat) (j : Nat) : (lxU n T M U)[j]? = if j < n then some (!T.contains j || (M.contains j && !U.contains j)) else none := by
  unfold lxU
  rw [List.getElem?_toArray, List.getElem?_map]
  by_cases h : j < n
  · rw [if_pos h, List.getElem?_range h]; rfl
  · rw [if_neg h, List.getElem?_eq_none (by simpa using h)]; rfl
theorem lxU_set {n : Nat} {T M U : List Nat} {i : Nat} (hi : i ∈ M) (hU : U.Nodup) (hl : i < n) : (lxU n T M U).setIfInBounds i true = lxU n T M (U.erase i) := by
  refine Array.ext_getElem? fun j => ?_
  rw [Array.getElem?_setIfInBounds, lxU_get, lxU_get]
  have hs : (lxU n T M U).size = n := by simp [lxU]
  by_cases e : i = j
  · subst e
    have h1 : (U.erase i).contains i = false := by
      rw [Bool.eq_false_iff]
      intro h
      exact hU.not_mem_erase (by simpa using h)
    have h2 : M.contains i = true := by simpa using hi
    rw [if_pos rfl, hs, if_pos hl, if_pos hl, h1, h2]
    simp
  · have : (U.erase i).contains j = U.contains j := by
      rw [Bool.eq_iff_iff]
      simp [List.mem_erase_of_ne (Ne.symm e)]
    rw [if_neg e, this]
/-- the makers M, in whatever order, each in a world that has grown: each has made, in its own stretch of the memory -/
theorem wpX_makers {T M : List Nat} {a0 : Act} (G : Nat → Nat → Nat → Value → World → Prop) (hSx : ∀ w w', S w → Ext w w' → S w') (hok : mixOk ops T = true) (hM : makOk ops T M = true)
    (hGx : ∀ i lo hi v w w', G i lo hi v w → Ext w w' → G i lo hi v w') (hlook : ∀ i ∈ M, ∀ o, ops[i]? = some o → o.guard = none ∧ ∀ j ∈ M, ∀ t, dstOf ops j = some t → ¬ t ∈ o.looksAt ops)
    (hmk : ∀ i ∈ M, ∀ o, ops[i]? = some o → ∀ w, S w → Makes P (fun v w' => Ext w w' ∧ G i w.heap.size w'.heap.size v w') o a0 w) {f0 : Nat}
    (hend : ∀ (v : Nat → Value) (r : Nat → Nat × Nat) w, S w → (∀ i ∈ M, G i (r i).1 (r i).2 (v i) w) → (∀ i ∈ M, ∀ j ∈ M, i ≠ j → (r i).2 ≤ (r j).1 ∨ (r j).2 ≤ (r i).1) →
      wpX P ops S R f0 (lxU ops.size T M []) (stP ops v a0 (fun i => M.contains i) ops.size) w) :
    ∀ (m : Nat) (U : List Nat), U.length = m → U.Sublist M → ∀ (v : Nat → Value) (r : Nat → Nat × Nat) w, S w →
      (∀ i ∈ M, i ∉ U → G i (r i).1 (r i).2 (v i) w ∧ (r i).2 ≤ w.heap.size) → (∀ i ∈ M, ∀ j ∈ M, i ∉ U → j ∉ U → i ≠ j → (r i).2 ≤ (r j).1 ∨ (r j).2 ≤ (r i).1) →
      wpX P ops S R (m + f0) (lxU ops.size T M U) (stP ops v a0 (fun i => M.contains i && !U.contains i) ops.size) w := by
  have hM' := hM
  unfold makOk at hM'
  simp only [Bool.and_eq_true, List.all_eq_true, decide_eq_true_eq] at hM'
  obtain ⟨⟨hnd, hmem⟩, hsub⟩ := hM'
  intro m
  induction m with
  | zero =>
    intro U hl hs v r w hS hd hp
    obtain rfl : U = [] := List.eq_nil_of_length_eq_zero hl
    have := hend v r w hS (fun i hi => (hd i hi (by simp)).1) (fun i hi j hj hne => hp i hi j hj (by simp) (by simp) hne)
    rw [Nat.zero_add]
    simpa using this
  | succ m ih =>
    intro U hl hs v r w hS hd hp
    have hne : U ≠ [] := fun e => by rw [e] at hl; cases hl
    have hr := hsub U (mem_subs _ _ hs)
    rw [Bool.or_eq_true] at hr
    have hr := hr.resolve_left (by simpa using hne)
    simp only [Bool.and_eq_true, Bool.not_eq_true', List.all_eq_true] at hr
    obtain ⟨hr1, hr2⟩ := hr
    have hUn : U.Nodup := hs.nodup hnd
    rw [show m + 1 + f0 = (m + f0) + 1 by omega]
    refine ⟨fun h0 => (by rw [h0] at hr1; cases hr1), fun i hi w' hx => ?_⟩
    have hiU : i ∈ U := by simpa using hr2 i hi
    have hiM : i ∈ M := hs.subset hiU
    have hlt : i < ops.size := (hmem i hiM).2
    obtain ⟨o, ho⟩ : ∃ o, ops[i]? = some o := ⟨_, Array.getElem?_eq_getElem hlt⟩
    obtain ⟨hg, hlk⟩ := hlook i hiM o ho
    have hsel : ∀ cs b, o.op ≠ .select cs b := (Region.noSelect_spec (mix_sel hok) i o · · ho)
    have hev : execOp (stP ops v a0 (fun i => M.contains i && !U.contains i) ops.size).eval o = execOp a0.eval o := same_eval hsel (fun t ht => stP_none _ (fun j hj hL hdj => by
      rw [Bool.and_eq_true] at hL
      exact hlk j (by simpa using hL.1) t hdj ht))
    unfold wpOp
    simp only [ho]
    rw [show Region.wanted o (yielded ops (stP ops v a0 (fun i => M.contains i && !U.contains i) ops.size).tmps) = true by simp [Region.wanted, hg], if_pos rfl]
    have hmake := hmk i hiM o ho w' (hSx _ _ hS hx)
    refine .inl (makes_wp (G := fun v w2 => Ext w' w2 ∧ G i w'.heap.size w2.heap.size v w2) (by unfold Makes at hmake ⊢; rw [hev]; exact hmake) fun u w2 ⟨hx2, hG⟩ => ⟨hSx _ _ (hSx _ _ hS hx) hx2, ?_⟩)
    have hput := stP_put (v := fun j => if j = i then u else v j) (a0 := a0) (mix_dst hok) ho (L := fun i => M.contains i && !U.contains i) (L' := fun j => M.contains j && !(U.erase i).contains j) (fun j => by
      by_cases e : j = i
      · subst e
        have h1 : (U.erase j).contains j = false := by
          rw [Bool.eq_false_iff]
          intro h
          exact hUn.not_mem_erase (by simpa using h)
        rw [h1]
        simp [hiM]
      · have : (U.erase i).contains j = U.contains j := by
          rw [Bool.eq_iff_iff]
          simp [List.mem_erase_of_ne e]
        rw [this]
        simp [e])
    rw [if_pos rfl] at hput
    have hcong : stP ops (fun j => if j = i then u else v j) a0 (fun i => M.contains i && !U.contains i) ops.size = stP ops v a0 (fun i => M.contains i && !U.contains i) ops.size :=
      stP_congr _ (fun _ _ => rfl) (fun j _ hL => by
        have : j ≠ i := fun e => by
          subst e
          rw [Bool.and_eq_true] at hL
          simp [hiU] at hL
        simp [this])
    rw [hcong] at hput
    rw [hput, lxU_set hiM hUn hlt]
    have hnotin : ∀ j, j ∉ U.erase i → j ≠ i → j ∉ U := fun j hj hne hm => hj ((List.mem_erase_of_ne hne).2 hm)
    refine ih (U.erase i) (by rw [List.length_erase_of_mem hiU]; omega) ((List.erase_sublist).trans hs) _ (fun j => if j = i then (w'.heap.size, w2.heap.size) else r j) w2 (hSx _ _ (hSx _ _ hS hx) hx2) (fun j hj hjn => ?_) (fun j hj k hk hjn hkn hne => ?_)
    · by_cases e : j = i
      · subst e; simp only [if_true]; exact ⟨hG, Nat.le_refl _⟩
      · simp only [e, if_false]
        have := hd j hj (hnotin j hjn e)
        exact ⟨hGx _ _ _ _ _ _ this.1 (hx.trans hx2), Nat.le_trans this.2 (hx.trans hx2).size⟩
    · have hb : ∀ q ∈ M, q ∉ U.erase i → q ≠ i → (r q).2 ≤ w'.heap.size := fun q hq hqn hqi => Nat.le_trans (hd q hq (hnotin q hqn hqi)).2 hx.size
      by_cases e : j = i
      · subst e
        have hki : k ≠ j := fun e => hne e.symm
        simp only [if_true, hki, if_false]
        exact .inr (hb k hk hkn hki)
      · by_cases e2 : k = i
        · subst e2
          simp only [if_true, e, if_false]
          exact .inl (hb j hj hjn e)
        · simp only [e, e2, if_false]
          exact hp j hj k hk (hnotin j hjn e) (hnotin k hkn e2) hne
/-- no maker looks at what another made -/
def lookOk (ops : Array Oper) (M : List Nat) : Bool := M.all fun i => match ops[i]? with
  | none => false
  | some o => o.guard.isNone && M.all fun j => match dstOf ops j with
    | none => true
    | some t => !(o.looksAt ops).contains t
theorem lookOk_spec {M : List Nat} (h : lookOk ops M = true) : ∀ i ∈ M, ∀ o, ops[i]? = some o → o.guard = none ∧ ∀ j ∈ M, ∀ t, dstOf ops j = some t → ¬ t ∈ o.looksAt ops := by
  intro i hi o ho
  unfold lookOk at h
  rw [List.all_eq_true] at h
  have h1 := h i hi
  rw [ho] at h1
  dsimp only at h1
  rw [Bool.and_eq_true, List.all_eq_true] at h1
  refine ⟨by simpa using h1.1, fun j hj t ht hm => ?_⟩
  have h2 := h1.2 j hj
  rw [ht] at h2
  dsimp only at h2
  have : (o.looksAt ops).contains t = true := by simpa using hm
  rw [this] at h2
  cases h2
end
end Go.Proofs.Ytlaflbepidkmnaa
/- The document's kernel: New. -/
namespace Go.Proofs.Ytlaflbepidkmnaa
open Go.RowKit
attribute [local go_sem] setCell_twice Ext.alloc Ext.drew
set_option linter.unusedSimpArgs false
set_option linter.unusedVariables false
set_option maxRecDepth 100000
set_option maxHeartbeats 1600000
attribute [local irreducible] Calls

theorem flat_rep {α : Type} (enc : α → List Value) (x : α) (v : Value) (h : enc x = [v]) (n : Nat) : ((List.replicate n x).flatMap enc).toArray = Array.replicate n v := by
  refine Array.ext' ?_
  rw [Array.toList_replicate]
  show (List.replicate n x).flatMap enc = _
  induction n with
  | zero => rfl
  | succ n ih => rw [List.replicate_succ, List.flatMap_cons, h, ih, List.replicate_succ]; rfl
theorem infoJp1 : (Try.prog.info? 116).map (fun i => (i.zero, i.size, i.bytes)) = some (some (.pointer none), 1, 8) := by kernel_rfl
theorem infoU1 : (Try.prog.info? 32).map (fun i => (i.zero, i.size, i.bytes)) = some (some (.int .u64 0), 1, 8) := by kernel_rfl
theorem make_jp {n : Nat} (h : n ≤ 8) (w : World) : (Instr.makeSlice 79 (.int .i64 n) (.int .i64 n)).run Try.prog w = .ok (.slice (some ⟨w.heap.size, 0, none⟩) n n) (w.alloc (.cells ((List.replicate n (none : Option Nat)).flatMap encJp).toArray 116)) := by
  obtain ⟨i, hi, hz0, hz1, hz2⟩ := info_parts infoJp1
  have := run_make w 79 116 i (.pointer none) Try.underlying79 hi hz0 .i64 .i64 n n (by omega) (Int.le_refl _) (by rw [hz2]; omega) (by omega)
  rw [hz1, Int.toNat_natCast, Nat.mul_one] at this
  rw [this, flat_rep encJp _ (.pointer none) rfl]
  have e : madeCells (.pointer none : Value).cells n = Array.replicate n (.pointer none) := by
    refine Array.ext' ?_
    show (madeCells #[(.pointer none : Value)] n).toList = _
    rw [toList_madeCells_one]
    simp
  rw [e]
theorem make_u1 {n : Nat} (h : n ≤ 8) (w : World) : (Instr.makeSlice 82 (.int .i64 n) (.int .i64 n)).run Try.prog w = .ok (.slice (some ⟨w.heap.size, 0, none⟩) n n) (w.alloc (.cells ((List.replicate n 0).flatMap encH).toArray 32)) := by
  obtain ⟨i, hi, hz0, hz1, hz2⟩ := info_parts infoU1
  have := run_make w 82 32 i (.int .u64 0) Try.underlying82 hi hz0 .i64 .i64 n n (by omega) (Int.le_refl _) (by rw [hz2]; omega) (by omega)
  rw [hz1, Int.toNat_natCast, Nat.mul_one] at this
  rw [this, flat_rep encH _ (.int .u64 0) rfl]
  have e : madeCells (.int .u64 0 : Value).cells n = Array.replicate n (.int .u64 0) := by
    refine Array.ext' ?_
    show (madeCells #[(.int .u64 0 : Value)] n).toList = _
    rw [toList_madeCells_one]
    simp
  rw [e]
theorem make_i1 {n : Nat} (h : n ≤ 8) (w : World) : (Instr.makeSlice 31 (.int .i64 n) (.int .i64 n)).run Try.prog w = .ok (.slice (some ⟨w.heap.size, 0, none⟩) n n) (w.alloc (.cells ((List.replicate n (0 : Int)).flatMap encI).toArray 2)) := by
  obtain ⟨i, hi, hz0, hz1, hz2⟩ := info_parts infoI64
  have := run_make w 31 2 i (.int .i64 0) Try.underlying31 hi hz0 .i64 .i64 n n (by omega) (Int.le_refl _) (by rw [hz2]; omega) (by omega)
  rw [hz1, Int.toNat_natCast, Nat.mul_one] at this
  rw [this, flat_rep encI _ (.int .i64 0) rfl]
  have e : madeCells (.int .i64 0 : Value).cells n = Array.replicate n (.int .i64 0) := by
    refine Array.ext' ?_
    show (madeCells #[(.int .i64 0 : Value)] n).toList = _
    rw [toList_madeCells_one]
    simp
  rw [e]
/-- what each maker of New's region makes -/
def MkG (s : TSet) (i lo hi : Nat) (v : Value) (w : World) : Prop :=
  if i = 1 then ∃ v' ps, v = setV s v' ∧ PutOwn w lo v' ps ∧ ps.map (·.1) = s.tasks ∧ (∀ q, v'.ownBlock = some q → q < hi) ∧ ∀ p ∈ ps, ∀ q, p.2.ownBlock = some q → q < hi
  else if i = 3 then ∃ g, v = .slice (some ⟨g, 0, none⟩) s.tasks.length s.tasks.length ∧ RowBk encJp w g 116 (List.replicate s.tasks.length none) ∧ lo ≤ g ∧ g < hi
  else if i = 5 then ∃ gt g, v = .pointer (some ⟨gt, 0, none⟩) ∧ TabAt 95 w gt g (List.replicate s.tasks.length St.zero) ∧ lo ≤ gt ∧ lo ≤ g ∧ g < hi
  else if i = 7 then ∃ g, v = .slice (some ⟨g, 0, none⟩) s.tasks.length s.tasks.length ∧ RowBk encH w g 32 (List.replicate s.tasks.length 0) ∧ lo ≤ g ∧ g < hi
  else if i = 9 then ∃ g, v = .slice (some ⟨g, 0, none⟩) s.tasks.length s.tasks.length ∧ RowBk encI w g 2 (List.replicate s.tasks.length 0) ∧ lo ≤ g ∧ g < hi
  else if i = 11 then ∃ g, v = .pointer (some ⟨g, 0, none⟩) ∧ CacheR w g (List.replicate 64 0) ∧ lo ≤ g ∧ g < hi
  else ∃ gp va vb, v = .pointer (some ⟨gp, 0, none⟩) ∧ Pol19 w gp va vb ((s.tasks.map (·.T)).map fun t => (t, -1)) ∧ lo ≤ gp ∧ (∀ q, va.ownBlock = some q → lo ≤ q ∧ q < hi) ∧ (∀ q, vb.ownBlock = some q → lo ≤ q ∧ q < hi)
theorem MkG.ext {s : TSet} (i lo hi : Nat) (v : Value) (w w' : World) (h : MkG s i lo hi v w) (hx : Ext w w') : MkG s i lo hi v w' := by
  unfold MkG at h ⊢
  by_cases e1 : i = 1
  · rw [if_pos e1] at h ⊢
    obtain ⟨v', ps, e, h1, h2, h3, h4⟩ := h
    exact ⟨v', ps, e, h1.ext hx, h2, h3, h4⟩
  rw [if_neg e1] at h ⊢
  by_cases e3 : i = 3
  · rw [if_pos e3] at h ⊢
    obtain ⟨g, e, h1, h2⟩ := h
    exact ⟨g, e, h1.ext hx, h2⟩
  rw [if_neg e3] at h ⊢
  by_cases e5 : i = 5
  · rw [if_pos e5] at h ⊢
    obtain ⟨gt, g, e, h1, h2⟩ := h
    exact ⟨gt, g, e, h1.ext hx, h2⟩
  rw [if_neg e5] at h ⊢
  by_cases e7 : i = 7
  · rw [if_pos e7] at h ⊢
    obtain ⟨g, e, h1, h2⟩ := h
    exact ⟨g, e, h1.ext hx, h2⟩
  rw [if_neg e7] at h ⊢
  by_cases e9 : i = 9
  · rw [if_pos e9] at h ⊢
    obtain ⟨g, e, h1, h2⟩ := h
    exact ⟨g, e, h1.ext hx, h2⟩
  rw [if_neg e9] at h ⊢
  by_cases e11 : i = 11
  · rw [if_pos e11] at h ⊢
    obtain ⟨g, e, h1, h2⟩ := h
    exact ⟨g, e, h1.ext hx, h2⟩
  rw [if_neg e11] at h ⊢
  obtain ⟨gp, va, vb, e, h1, h2⟩ := h
  exact ⟨gp, va, vb, e, h1.ext hx, h2⟩
theorem polR_init (s : TSet) : polL s (initK s) = (s.tasks.map (·.T)).map fun t => (t, (-1 : Int)) := by
  unfold polL
  refine List.ext_getElem (by simp) fun i h1 h2 => ?_
  have hi : i < s.tasks.length := by simpa using h1
  simp only [List.getElem_map, List.getElem_range]
  have e : (initK s).pol.getD i (-1) = -1 := by simp [initK, List.getD, hi]
  rw [e, tk_at s hi]
theorem new_r25 (s : TSet) (v : Value) (w : World) (hv : Tasks w v s.tasks) (hf : s.fit) (hAll : ∀ w', Ext w w' → Calls Try.prog 6 #[setV s v] w' fun e w2 => e = .returned (.bool true) ∧ Below w'.heap.size w' w2) (hs : KH s) :
    Calls Try.prog 19 #[setV s v] w fun e w' => ∃ b, e = .returned (.tuple #[.pointer (some ⟨b.gk, 0, none⟩), .int .i64 0]) ∧ (∃ ev os, RAt b w.heap.size w' s (initK s) ev os ∧ ∀ q, footR b os ev q → w.heap.size ≤ q) ∧ Ext w w' := by
  obtain ⟨A, c, rfl, hcc, hcm, hxx⟩ := id hv
  clear hxx
  have hn8 := hs.len
  unfold maxLen at hcm
  have hX1 := (Ext.refl w).alloc (.cells #[.int .i64 s.reload, .slice A s.tasks.length c] 24)
  have hB1 := Blk.new w #[.int .i64 s.reload, .slice A s.tasks.length c] 24
  unfold setV at hAll ⊢
  have HAll := Lib.hid hAll
  have HV := Lib.hid hv
  clear hAll hv
  go_enter Try.func19, Try.ntmps19
  go_wp2_with (fail)
  refine (HAll.out _ hX1).mono ?_
  rintro e W ⟨rfl, hb1⟩
  have hXW := hX1.call hb1
  have hBW := hB1.ext ⟨hb1⟩
  have hc : ∀ w', Ext W w' → ∀ j, w'.cell? ⟨w.heap.size, j, none⟩ = #[.int .i64 s.reload, .slice A s.tasks.length c][j]? := fun w' hx => (hBW.ext hx).cell
  have hc0 := hc W (Ext.refl W)
  clear hX1 hB1 hb1
  generalize hgs : w.heap.size = g0 at *
  have hsW := hXW.size
  go_wp2_with (fail)
  go_loopw [5, 6] (fun u i wr => ∃ k : Nat, k ≤ s.tasks.length ∧ i = .int .i64 k ∧ Ext W wr ∧ RowI wr W.heap.size u ((s.tasks.map (·.T)).take k)) (fun _ i _ => s.tasks.length - (intOf i).toNat)
  case atStart => exact ⟨0, by omega, rfl, Ext.refl W, OwnL.nil⟩
  case round =>
    obtain ⟨k, hk, rfl, hX, hO⟩ := hrel
    have hcr := hc wr hX
    by_cases hlt : k < s.tasks.length
    · obtain ⟨b2, o2, r, rfl, hat⟩ := (HV.out.ext (hXW.trans hX)).at hlt
      have hT := hat.under.2.1 wr (Ext.refl wr)
      have hlt2 : k < (s.tasks.map (·.T)).length := by rw [List.length_map]; exact hlt
      have HE := Lib.hid (show (s.tasks.map (·.T)).take (k + 1) = (s.tasks.map (·.T)).take k ++ [s.tasks[k].T] by rw [List.take_succ_eq_append_getElem hlt2, List.getElem_map])
      have HL := Lib.hid (show ((s.tasks.map (·.T)).take k).length ≤ 8 by rw [List.length_take]; omega)
      clear hat hlt2
      generalize s.tasks[k].T = x at *
      generalize (s.tasks.map (·.T)).take k = xs at *
      obtain ⟨n5, A5, c5, rfl⟩ := own_sl hO
      have HO := Lib.hid hO
      clear hO
      go_wp2_with (at_builtin; (refine wpList_push rfl _ _ 31 rfl W.heap.size 2 Try.underlying31 infoI64 rfl (by decide) (by decide) encI xs _ rfl (OwnL.alloc HO.out _) x wr.heap.size #[.int .i64 x] 2 rfl (Blk.new _ _ _) rfl rfl (encI_one _) ?_ ?_ ?_; (· have := HL.out; omega); (· have := hX.size; simp; omega); (intro v4 w4 hown hg4 hloc _)))
      exact ⟨⟨k + 1, hlt, rfl, (hX.alloc _).grown hg4 (fun j hj => (OwnL.lt HO.out j hj).1), by rw [HE.out]; exact hown⟩, by simp [intOf]; omega⟩
    · obtain rfl : k = s.tasks.length := by omega
      rw [show (s.tasks.map (·.T)).take s.tasks.length = s.tasks.map (·.T) from List.take_of_length_le (by rw [List.length_map]; exact Nat.le_refl _)] at hO
      obtain ⟨n5, A5, c5, rfl⟩ := own_sl hO
      have hc9 : ∀ w', Ext wr w' → ∀ j, w'.cell? ⟨g0, j, none⟩ = #[.int .i64 s.reload, .slice A s.tasks.length c][j]? := fun w' hx => hc w' (hX.trans hx)
      clear hc0
      go_upto_region 9 with (fail)
      refine wp_region_mix (T := [1, 3, 5, 7, 9, 11, 13, 14, 15, 16]) (S := Ext wr) (W := wr) (Ext.mono wr) (by kernel_rfl) (by kernel_rfl) (Ext.refl wr).drew (Ext.refl wr) (fun _ _ h => h) (fun K hK => ?_)
      (repeat (first | (refine hX_skip ?_ ?_; (· rfl)) | (apply hX_and; (· rfl); (· rfl); (· rfl); (· rfl); (· rfl); simp only [Act.put, List.setIfInBounds_toArray, List.set_cons_zero, List.set_cons_succ]) | (apply hX_or; (· rfl); (· rfl); (· rfl); (· rfl); (· rfl); simp only [Act.put, List.setIfInBounds_toArray, List.set_cons_zero, List.set_cons_succ]) | (apply hX_off; (· rfl); (· rfl); (· rfl); simp only [Act.put, List.setIfInBounds_toArray, List.set_cons_zero, List.set_cons_succ]) | (apply hX_val; (· rfl); (· intro w hS; go_simp; with_reducible rfl); (· rfl); simp only [Act.put, List.setIfInBounds_toArray, List.set_cons_zero, List.set_cons_succ]) | (apply hX_call; (· rfl); (· rfl); (· intro w hS; go_simp; exact ⟨rfl, rfl⟩); (· intro w hS; fail); simp only [Act.put, List.setIfInBounds_toArray, List.set_cons_zero, List.set_cons_succ]) | (apply hX_if; (· rfl); (· rfl); (· rfl); (· intro hif w hS; go_simp; with_reducible rfl); simp only [Act.put, List.setIfInBounds_toArray, List.set_cons_zero, List.set_cons_succ]) | (apply hX_ifcall; (· rfl); (· rfl); (· rfl); (· intro hif w hS; go_simp; exact ⟨rfl, rfl⟩); (· intro hif w hS; fail); simp only [Act.put, List.setIfInBounds_toArray, List.set_cons_zero, List.set_cons_succ]))); refine hX_nil ?_
      refine hK _ ?_
      clear hK K
      refine wpX_makers (T := [1, 3, 5, 7, 9, 11, 13, 14, 15, 16]) (M := [1, 3, 5, 7, 9, 11, 13]) (fun i lo hi v w' => g0 ≤ lo ∧ MkG s i lo hi v w') (Ext.mono wr) (by kernel_rfl) (by kernel_rfl) (fun i lo hi v w w' h hx => ⟨h.1, MkG.ext i lo hi v w w' h.2 hx⟩) (lookOk_spec (by kernel_rfl)) ?_ (f0 := 3) ?_ 7 [1, 3, 5, 7, 9, 11, 13] rfl (List.Sublist.refl _) (fun _ => undef) (fun _ => (0, 0)) wr (Ext.refl wr) (by simp) (by simp)
      · intro i hi o ho w2 hw2
        simp only [List.mem_cons, List.not_mem_nil, or_false] at hi
        have hcw := hc9 w2 hw2
        have hg2 : g0 ≤ w2.heap.size := Nat.le_trans (hgs ▸ hsW) (Nat.le_trans hX.size hw2.size)
        rcases hi with rfl | rfl | rfl | rfl | rfl | rfl | rfl
        · obtain rfl := (Option.some.inj ho).symm
          have hPut := put_any s (.slice A s.tasks.length c) w2 (HV.out.ext (hXW.trans (hX.trans hw2))) hf
          unfold setV at hPut
          unfold Makes
          go_simp
          refine hPut.mono ?_
          rintro e w3 ⟨v', ps, rfl, hP, hps, hb3⟩
          exact ⟨_, rfl, ⟨hb3⟩, v', ps, rfl, hP, hps, fun q hq => (OwnL.lt hP.1 q hq).2, fun p hp q hq => (OwnL.lt (hP.2.1 p hp) q hq).2⟩
        · obtain rfl := (Option.some.inj ho).symm
          have hmk := make_jp hn8.2 w2
          unfold Makes
          go_simp
          exact ⟨(Ext.refl w2).alloc _, w2.heap.size, rfl, Blk.new _ _ _, Nat.le_refl _, by omega⟩
        · obtain rfl := (Option.some.inj ho).symm
          unfold Makes
          go_simp
          refine (new_r21 s.tasks.length w2 hn8).mono ?_
          rintro e w3 ⟨gt, g, rfl, hT, l1, l2, hX3⟩
          exact ⟨_, rfl, hX3, gt, g, rfl, hT, l1, l2, Blk.lt hT.row⟩
        · obtain rfl := (Option.some.inj ho).symm
          have hmk := make_u1 hn8.2 w2
          unfold Makes
          go_simp
          exact ⟨(Ext.refl w2).alloc _, w2.heap.size, rfl, Blk.new _ _ _, Nat.le_refl _, by omega⟩
        · obtain rfl := (Option.some.inj ho).symm
          have hmk := make_i1 hn8.2 w2
          unfold Makes
          go_simp
          exact ⟨(Ext.refl w2).alloc _, w2.heap.size, rfl, Blk.new _ _ _, Nat.le_refl _, by omega⟩
        · obtain rfl := (Option.some.inj ho).symm
          unfold Makes
          go_simp
          exact ⟨(Ext.refl w2).alloc _, w2.heap.size, rfl, ⟨Blk.new _ _ _, by simp⟩, Nat.le_refl _, by omega⟩
        · obtain rfl := (Option.some.inj ho).symm
          unfold Makes
          go_simp
          have hI2 : Ints w2 (.slice A5 n5 c5) (s.tasks.map (·.T)) := RowI.ints (show RowI w2 W.heap.size (.slice A5 n5 c5) (s.tasks.map (·.T)) from OwnL.below (show OwnL encI wr W.heap.size 2 1 (.slice A5 n5 c5) (s.tasks.map (·.T)) from hO) hw2.below)
          refine (new_r19 (s.tasks.map (·.T)) _ w2 hI2 (by rw [List.length_map]; exact hn8.2) (fun x hx => by
            obtain ⟨t, ht, rfl⟩ := List.mem_map.1 hx
            obtain ⟨i, hi, rfl⟩ := List.mem_iff_getElem.1 ht
            have := hs.T i hi
            rw [tk_at s hi] at this
            omega)).mono ?_
          rintro e w3 ⟨gp, va, vb, rfl, hP, hTwo⟩
          exact ⟨_, rfl, hTwo.ext, gp, va, vb, rfl, hP, hTwo.ge, fun q hq => OwnL.lt hTwo.a q hq, fun q hq => OwnL.lt hTwo.b q hq⟩
      · intro v r w2 hw2 hG hap
        have g1 := hG 1 (by simp)
        have g3 := hG 3 (by simp)
        have g5 := hG 5 (by simp)
        have g7 := hG 7 (by simp)
        have g9 := hG 9 (by simp)
        have g11 := hG 11 (by simp)
        have g13 := hG 13 (by simp)
        obtain ⟨low1, v', ps, e1, hP, hps, hv1, hv2⟩ := g1
        obtain ⟨low3, gj, e3, hJ, hj1, hj2⟩ := g3
        obtain ⟨low5, gt, gs, e5, hTb, ht1, ht2, ht3⟩ := g5
        obtain ⟨low7, gh, e7, hH, hh1, hh2⟩ := g7
        obtain ⟨low9, gl, e9, hL, hl1, hl2⟩ := g9
        obtain ⟨low11, gc, e11, hC, hc1, hc2⟩ := g11
        obtain ⟨low13, gp, va, vb, e13, hPo, hp1, hp2, hp3⟩ := g13
        simp only [stP, List.getElem?_toArray, List.getElem?_cons_zero, List.getElem?_cons_succ, List.size_toArray, List.length_cons, List.length_nil]
        unfold setV at e1
        simp only [lxU, e1, e3, e5, e7, e9, e11, e13, Act.put]
        refine wpX_want (i := 14) (by kernel_rfl) rfl (by simp [Region.wanted, yielded]) ?_
        intro w4 hx4 K hK
        go_simp
        refine hK _ _ (hw2.trans hx4) ?_
        clear hK K
        refine wpX_want (i := 15) (by kernel_rfl) rfl (by simp [Region.wanted, yielded]) ?_
        intro w5 hx5 K hK
        go_simp
        have hKB := Blk.new w5 #[.int .i64 s.reload, v', .int .i64 0, .int .i64 (-1), .int .i64 (-1), .slice (some ⟨gj, 0, none⟩) s.tasks.length s.tasks.length, .pointer (some ⟨gt, 0, none⟩), .slice (some ⟨gh, 0, none⟩) s.tasks.length s.tasks.length, .slice (some ⟨gl, 0, none⟩) s.tasks.length s.tasks.length, .pointer (some ⟨gc, 0, none⟩), .pointer (some ⟨gp, 0, none⟩), .slice none 0 0] 90
        have hx6 := (hx4.trans hx5).alloc (.cells #[.int .i64 s.reload, v', .int .i64 0, .int .i64 (-1), .int .i64 (-1), .slice (some ⟨gj, 0, none⟩) s.tasks.length s.tasks.length, .pointer (some ⟨gt, 0, none⟩), .slice (some ⟨gh, 0, none⟩) s.tasks.length s.tasks.length, .slice (some ⟨gl, 0, none⟩) s.tasks.length s.tasks.length, .pointer (some ⟨gc, 0, none⟩), .pointer (some ⟨gp, 0, none⟩), .slice none 0 0] 90)
        refine hK _ _ (hw2.trans hx6) ?_
        clear hK K
        have hgk : g0 ≤ w5.heap.size := Nat.le_trans (hgs ▸ hsW) (Nat.le_trans hX.size (Nat.le_trans hw2.size (Nat.le_trans hx4.size hx5.size)))
        generalize w5.heap.size = gk at hKB hgk ⊢
        generalize w5.alloc _ = w6 at hKB hx6 ⊢
        refine wpX_want (i := 16) (by kernel_rfl) rfl (by simp [Region.wanted, yielded]) ?_
        intro w7 hx7 K hK
        go_simp
        refine hK _ _ (hw2.trans (hx6.trans hx7)) ?_
        clear hK K
        refine wpX_done (by kernel_rfl) (fun w8 hx8 => ?_) _
        have hX8 := (hx6.trans hx7).trans hx8
        have hKB8 := hKB.ext (hx7.trans hx8)
        have hxE := hXW.trans (hX.trans (hw2.trans hX8))
        go_wp2_with (fail)
        refine bodyPost_ret (v := .tuple #[.pointer (some ⟨gk, 0, none⟩), .int .i64 0]) (by simp [results, Try.results19, go_sem]) rfl ?_
        refine ⟨⟨gk, gp, gc, gt, gs, gj, gh, gl, w8.heap.size, v', va, vb, ps⟩, rfl, ⟨.slice none 0 0, List.replicate s.tasks.length none, ?_, ?_⟩, hxE⟩
        · have hno : ∀ i, opAt (List.replicate s.tasks.length (none : Option Nat)) i = none := fun i => by
            unfold opAt
            simp only [List.getD, List.getElem?_replicate]
            split <;> rfl
          have hPo8 := hPo.ext hX8
          have a19 := hap 1 (by simp) 9 (by simp) (by decide)
          have a1p := hap 1 (by simp) 13 (by simp) (by decide)
          have ap9 := hap 13 (by simp) 9 (by simp) (by decide)
          exact {
            box := hKB8
            trow := OwnL.lower (OwnL.below hP.1 hX8.below) (Nat.zero_le _)
            regs := fun p hp => OwnL.lower (OwnL.below (hP.2.1 p hp) hX8.below) (Nat.zero_le _)
            eq := hps
            pol := by rw [polR_init]; exact hPo8
            cache := hC.ext hX8
            tab := hTb.ext hX8
            jrow := hJ.ext hX8
            hrow := hH.ext hX8
            lrow := hL.ext hX8
            jl := List.length_replicate
            hl := List.length_replicate
            ll := List.length_replicate
            jobs := fun i hi g hg => by rw [hno] at hg; cases hg
            sep := fun i j hi hj hne g hg => by rw [hno] at hg; cases hg
            evs := OwnL.nil
            low := ⟨Blk.lt (hL.ext hX8), fun q hq => (OwnL.lt hPo8.l q hq).2⟩
            bas := Nat.le_refl _
            apR := fun p hp q hq => by
              have h1 := OwnL.lt (hP.2.1 p hp) q hq
              have h2 := hv2 p hp q hq
              refine ⟨fun e => by have e : q = gl := e; omega, fun e => ?_⟩
              have h3 := hp3 q e
              omega
            apA := fun q hq e => by
              have h3 := hp2 q hq
              have e : q = gl := e
              omega
            apB := fun e => by
              have h3 := hp3 gl e
              omega }
        · intro q hq
          have hno : ∀ i, opAt (List.replicate s.tasks.length (none : Option Nat)) i = none := fun i => by
            unfold opAt
            simp only [List.getD, List.getElem?_replicate]
            split <;> rfl
          rcases hq with h | h | h | h | h | h | h | h | ⟨i, h⟩
          · have h : q = gk := h
            omega
          · have h : q = gs := h
            omega
          · have h : q = gc := h
            omega
          · have h : q = gj := h
            omega
          · have h : q = gh := h
            omega
          · have h : q = gl := h
            omega
          · have := (hp3 q h).1
            omega
          · cases h
          · rw [hno] at h; cases h
end Go.Proofs.Ytlaflbepidkmnaa
/- Krd -/
namespace Go.Proofs.Ytlaflbepidkmnaa
open Go.RowKit
attribute [local go_sem] setCell_twice Ext.alloc Ext.drew
set_option linter.unusedSimpArgs false
set_option linter.unusedVariables false
set_option maxRecDepth 100000
set_option maxHeartbeats 400000
attribute [local irreducible] Calls
end Go.Proofs.Ytlaflbepidkmnaa
/- R25s -/
namespace Go.Proofs.Ytlaflbepidkmnaa
open Go.RowKit
set_option linter.unusedSimpArgs false
set_option linter.unusedVariables false
set_option maxRecDepth 100000
set_option maxHeartbeats 1600000
attribute [local irreducible] Calls
theorem SlR.imp {α : Type} {R R' : World → Nat → Nat → α → Prop} {sz : Nat} {w w' : World} {v : Value} {xs : List α} (h : SlR R sz Any w v xs) (hR : ∀ b o x, R w b o x → R' w' b o x) : SlR R' sz Any w' v xs := by
  obtain ⟨A, c, e, h1, h2, h3⟩ := h
  refine ⟨A, c, e, h1, h2, fun hn => ?_⟩
  obtain ⟨b, o, e2, ha, hr⟩ := h3 hn
  exact ⟨b, o, e2, ha, fun i hi => hR _ _ _ (hr i hi)⟩
theorem footR_lt {b : RB} {B : Nat} {w : World} {s : TSet} {k : KS} {ev : Value} {os : List (Option Nat)} (h : RAt b B w s k ev os) {q : Nat} (hq : footR b os ev q) : q < w.heap.size := by
  obtain ⟨_, _, _, hB⟩ := h.footT q hq
  exact hB.lt
section
variable {s : TSet} {l : List Inp} {W0 wr w5 w6 : World} {b : KB} {b2 : RB} {m : Nat} {k k' : KS} {P : List Ev} {B B2 : Nat} {ev ev' : Value} {os os' : List Ow} {ev2 ev2' : Value} {os2 os2' : List (Option Nat)}
end
end Go.Proofs.Ytlaflbepidkmnaa
/- What KernelSteps asks further. -/
namespace Go.Proofs.Ytlaflbepidkmnaa
open Go.RowKit
attribute [local go_sem] setCell_twice Ext.alloc Ext.drew
set_option linter.unusedSimpArgs false
set_option linter.unusedVariables false
set_option maxRecDepth 100000
set_option maxHeartbeats 1600000
attribute [local irreducible] Calls
theorem sts_at2 {w : World} {A : Option Addr} {n c : Nat} {tab : List St} (h : SlR StR 4 Any w (.slice A n c) tab) {k : Nat} (hk : k < tab.length) : ∃ b o, A = some ⟨b, o, none⟩ ∧ ∀ w', Ext w w' → w'.cell? ⟨b, o + k * 4, none⟩ = some (.bool (stAt tab k).pend) ∧ w'.cell? ⟨b, o + k * 4 + 1, none⟩ = some (.bool (stAt tab k).start) ∧ w'.cell? ⟨b, o + k * 4 + 2, none⟩ = some (.bool (stAt tab k).mid) ∧ w'.cell? ⟨b, o + k * 4 + 3, none⟩ = some (.int .i64 (stAt tab k).arr) := by
  obtain ⟨b, o, rfl, hr⟩ := SlR.at h hk
  refine ⟨b, o, rfl, fun w' hx => ?_⟩
  have e : stAt tab k = tab[k] := by unfold stAt; rw [getD_at hk]
  rw [e]
  have hr := hr.ext hx
  exact hr
theorem new_r25_bad (s : TSet) (v : Value) (w : World) (hv : Tasks w v s.tasks) (hg : s.good) (hb : allB s = false) :
    Calls Try.prog 19 #[setV s v] w fun e w' => e = .returned (.tuple #[.pointer none, .int .i64 1]) ∧ Ext w w' := by
  obtain ⟨A, c, rfl, hcc, hcm, hxx⟩ := id hv
  clear hxx
  unfold maxLen at hcm
  have hX1 := (Ext.refl w).alloc (.cells #[.int .i64 s.reload, .slice A s.tasks.length c] 24)
  have hAll := allR_any s (.slice A s.tasks.length c) _ (hv.ext hX1) hg
  rw [hb] at hAll
  unfold setV at hAll ⊢
  have HAll := Lib.hid hAll
  clear hAll hb hv
  go_enter Try.func19, Try.ntmps19
  go_wp2_with (fail)
  refine HAll.out.mono ?_
  rintro e W ⟨rfl, hb1⟩
  have hXW := hX1.call hb1
  go_wp2_with (fail)
  refine bodyPost_ret (v := .tuple #[.pointer none, .int .i64 1]) (by simp [results, Try.results19, go_sem, *]) rfl ⟨rfl, hXW⟩
theorem KInv.last {s : TSet} {P : List Ev} {k : KS} (h : KInv s P k) : -1 ≤ k.last ∧ k.last < s.tasks.length := by
  have := h.lb.inv.curs
  dsimp only at this
  omega
end Go.Proofs.Ytlaflbepidkmnaa
/- R25r -/
namespace Go.Proofs.Ytlaflbepidkmnaa
open Go.RowKit
attribute [local go_sem] setCell_twice Ext.alloc Ext.drew
set_option linter.unusedSimpArgs false
set_option linter.unusedVariables false
set_option maxRecDepth 100000
set_option maxHeartbeats 1600000
attribute [local irreducible] Calls
theorem stAt_init' (s : TSet) (i : Nat) : stAt (initK s).tab i = St.zero := by
  unfold stAt initK
  simp only [List.getD, List.getElem?_replicate]
  split <;> rfl
theorem RAt.grows {b : RB} {B : Nat} {w w' : World} {s : TSet} {k : KS} {ev vo : Value} {os : List (Option Nat)} {P : List Ev} {base : Nat} (h : RAt b B w s k ev os) (hO : OwnL encEv w base 60 4 vo P) (hg : w.grownBy w' vo.ownBlock) (hne : ∀ q, vo.ownBlock = some q → ¬ footR b os ev q) : RAt b B w' s k ev os := by
  have hc : Chg (fun q => vo.ownBlock = some q) w w' := Chg.of_grown hg (fun k e => e)
  have hF : FT w (fun q => vo.ownBlock = some q) [60] := fun q hq => by
    obtain ⟨cs, hB⟩ := OwnL.block hO hq
    exact ⟨_, by simp, _, hB⟩
  have hQ : FQ b w (fun q => vo.ownBlock = some q) := hF.q rfl
  exact { h with
    box := h.kBox hc hF rfl, trow := h.kTrow hc hF rfl, regs := h.kRegs hc hQ, pol := h.kPol hc hF rfl hQ (h.noB hF rfl), cache := h.kCache hc hF rfl, tab := h.kTab hc hF rfl rfl, jrow := h.kJrow hc hF rfl, hrow := h.kHrow hc hF rfl, lrow := h.kLrow hc (h.noL hF rfl), jobs := h.kJobs hc hF rfl hQ
    evs := OwnL.chg h.evs hc (fun q hq hf => hne q hf (.inr (.inr (.inr (.inr (.inr (.inr (.inr (.inl hq))))))))), bas := Nat.le_trans h.bas hc.size }
/-- the runner's state -/
structure RunR (s : TSet) (l : List Inp) (W0 wr : World) (b : RB) (m : Nat) (k : KS) (P : List Ev) (B : Nat) (ev : Value) (os : List (Option Nat)) (vo : Value) : Prop where
  le : m ≤ l.length
  run : RunAt s l m k P
  at' : RAt b B wr s k ev os
  has : HasR s k os
  low : ∀ q, footR b os ev q → W0.heap.size ≤ q
  out : OwnL encEv wr W0.heap.size 60 4 vo P
  apart : ∀ q, vo.ownBlock = some q → ¬ footR b os ev q
  ext : Ext W0 wr
theorem RunR.next {s : TSet} {l : List Inp} {W0 wr w5 w6 : World} {b : RB} {m : Nat} {k : KS} {P : List Ev} {B : Nat} {ev ev' : Value} {os os' : List (Option Nat)} {vo v6 : Value} (hs : KH s) (h : RunR s l W0 wr b m k P B ev os vo) (hm : m < l.length)
    (hK : RAt b wr.heap.size w5 s (stepK s k l[m]) ev' os') (hC : Chg (footR b os ev) wr w5) (hf : ∀ q, footR b os' ev' q → footR b os ev q ∨ wr.heap.size ≤ q) (hH : HasR s (stepK s k l[m]) os')
    (hown : w6.ownsRow W0.heap.size 60 4 v6 (P.length + (stepK s k l[m]).evs.length) (P.flatMap encEv ++ (stepK s k l[m]).evs.flatMap encEv)) (hg : w5.grownBy w6 vo.ownBlock) (hloc : v6.ownBlock = vo.ownBlock ∨ v6.ownBlock = some w5.heap.size) :
    RunR s l W0 w6 b (m + 1) (stepK s k l[m]) (P ++ (stepK s k l[m]).evs) wr.heap.size ev' os' v6 := by
  have hO5 : OwnL encEv w5 W0.heap.size 60 4 vo P := OwnL.chg h.out hC h.apart
  have hap : ∀ q, vo.ownBlock = some q → ¬ footR b os' ev' q := fun q hq hf2 => by
    rcases hf q hf2 with h1 | h1
    · exact h.apart q hq h1
    · have := (OwnL.lt h.out q hq).2; omega
  refine ⟨hm, h.run.next hs hm, hK.grows hO5 hg hap, hH, fun q hq => ?_, ?_, fun q hq hf2 => ?_, ?_⟩
  · rcases hf q hq with h1 | h1
    · exact h.low q h1
    · have := h.ext.size; omega
  · unfold OwnL
    rw [List.flatMap_append, List.length_append]
    exact hown
  · rcases hloc with h1 | h1
    · exact hap q (h1.symm.trans hq) hf2
    · rw [h1] at hq
      have := Option.some.inj hq
      have := footR_lt hK hf2
      omega
  · exact (h.ext.chg hC h.low).grown hg (fun q hq => (OwnL.lt h.out q hq).1)
/-- the step, in a memory where the inputs lie as they were at first -/
theorem RunR.step {s : TSet} {l : List Inp} {W0 wr : World} {b : RB} {m : Nat} {k : KS} {P : List Ev} {B : Nat} {ev : Value} {os : List (Option Nat)} {vo : Value} (hs : KH2 s) (ho : ∀ x ∈ l, x.ok) (hll : l.length ≤ 1000) (hm : m < l.length) (h : RunR s l W0 wr b m k P B ev os vo) {vd : Value} (hd : SlR DemR 1 Any W0 vd l[m].dems) :
    Calls Try.prog 20 #[.pointer (some ⟨b.gk, 0, none⟩), .agg #[.int .u64 l[m].arrive, vd, .int .u64 l[m].touch]] wr fun e w' => ∃ ev' os', e = .returned ev' ∧ RAt b wr.heap.size w' s (stepK s k l[m]) ev' os' ∧ Chg (footR b os ev) wr w' ∧ (∀ q, footR b os' ev' q → footR b os ev q ∨ wr.heap.size ≤ q) ∧ HasR s (stepK s k l[m]) os' := by
  have hok := ho _ (List.getElem_mem hm)
  have hsame : ∀ {w' : World}, Same (fun q => q < W0.heap.size) wr w' → ∀ q, q < W0.heap.size → w'.heap[q]? = W0.heap[q]? := fun g q hq => (g q hq).trans (h.ext.below.block q hq)
  have hla := h.run.inv.last
  refine step_r25 b B s k ev os P l[m] vd (fun q => q < W0.heap.size) wr hs.kh hs.u h.at' h.run.inv h.has hla.1 hla.2 hok.1 hok.2.1 (fun q hq => Nat.lt_of_lt_of_le hq h.ext.size) (fun q hq hl => by have := h.low q hq; omega)
        (fun w' g => hd.imp fun b' o' x hx => ?_) (by rw [h.run.t]; omega) hs.q
  obtain ⟨r, hr, hi⟩ := (hx.same (Nat.le_refl _) (hsame g) : DemR w' b' o' x)
  obtain ⟨r', hr', hi'⟩ := hx
  have e : r = r' := by
    have := cells_same (Nat.le_refl _) (hsame g) hr'
    rw [hr] at this
    exact Option.some.inj this
  subst e
  refine ⟨r, hr, fun w2 g2 => ?_⟩
  obtain ⟨r2, hr2, hi2⟩ := (DemR.same (Nat.le_refl _) (hsame g2) ⟨r, hr', hi'⟩ : DemR w2 b' o' x)
  have e2 : r2 = r := by
    have := cells_same (Nat.le_refl _) (hsame g2) hr'
    rw [hr2] at this
    exact Option.some.inj this
  subst e2
  exact hi2
theorem events27_any (s : TSet) (v vl : Value) (l : List Inp) (w : World) (hv : Tasks w v s.tasks) (hft : s.fit) (hb : allB s = true) (hk : KH2 s) (hl : SlR InpR 3 Any w vl l) (ho : ∀ x ∈ l, x.ok) (hll : l.length ≤ 1000) :
    Calls Try.prog 8 #[setV s v, vl] w fun e w' => ∃ vo, e = .returned vo ∧ OwnL encEv w' w.heap.size 60 4 vo (eventsK s l) ∧ Ext w w' := by
  obtain ⟨A, c, rfl, hcc, hcm, hxx⟩ := id hv
  obtain ⟨Al, cl, rfl, hcl, hcm2⟩ := SlR.form hl
  clear hxx
  unfold maxLen at hcm hcm2
  have hX1 := (Ext.refl w).alloc (.cells #[.int .i64 s.reload, .slice A s.tasks.length c] 24)
  have hNew := new_r25 s (.slice A s.tasks.length c) _ (hv.ext hX1) hft (fun w2 hx2 => by have := allR_any s (.slice A s.tasks.length c) w2 (hv.ext (hX1.trans hx2)) hft.good; rw [hb] at this; exact this) hk.kh
  unfold setV at hNew ⊢
  have HNew := Lib.hid hNew
  have HL := Lib.hid hl
  clear hNew hv hl
  go_enter Try.func8, Try.ntmps8
  go_wp2_with (fail)
  refine HNew.out.mono ?_
  rintro e W ⟨b, rfl, ⟨ev, os, hK, hft⟩, hX⟩
  have hS0 : RunR s l w W b 0 (initK s) [] _ ev os (.slice none 0 0) := ⟨Nat.zero_le _, RunAt.zero hk.kh l, hK, (fun i hi hp => by rw [stAt_init'] at hp; cases hp), fun q hq => Nat.le_trans hX1.size (hft q hq), OwnL.nil, (fun q hq => by cases hq), hX1.trans hX⟩
  have HS0 := Lib.hid hS0
  clear hK hft hS0
  go_wp2_with (fail)
  go_loopw [7, 8] (fun vo i wr => ∃ (m : Nat) (k : KS) (P : List Ev) (B : Nat) (ev : Value) (os : List (Option Nat)) (vo' : Value), vo' = vo ∧ i = .int .i64 m ∧ RunR s l w wr b m k P B ev os vo') (fun _ i _ => l.length - (intOf i).toNat)
  case atStart => exact ⟨0, _, _, _, ev, os, _, rfl, rfl, HS0.out⟩
  case round =>
    obtain ⟨m, k, P, B, ev1, os1, vo, rfl, rfl, hS⟩ := hrel
    have hm := hS.le
    by_cases hlt : m < l.length
    · obtain ⟨bi, oi, rfl, h1, ⟨vd, h2, h3⟩, h4⟩ := SlR.at HL.out hlt
      have hx0 := hS.ext.cell h1
      have hx1 := hS.ext.cell h2
      have hx2 := hS.ext.cell h4
      have hst := hS.step hk ho hll hlt h3
      have hfew := hS.run.few hk.kh
      have hfew2 := stepK_few hk.kh.len.2 k l[m]
      have HNX := Lib.hid (fun (w5 w6 : World) (ev' v6 : Value) (os' : List (Option Nat)) => RunR.next (w5 := w5) (w6 := w6) (ev' := ev') (os' := os') (v6 := v6) hk.kh hS hlt)
      have HS := Lib.hid hS
      have HST := Lib.hid hst
      obtain ⟨Av, cv, rfl, _, _⟩ := OwnL.form HS.out.out
      clear hst hS h1 h2 h4
      generalize stepK s k l[m] = k' at *
      generalize l[m] = x at *
      go_wp2_with (fail)
      refine HST.out.mono ?_
      rintro e w5 ⟨ev', os', rfl, hK', hC', hf', hH'⟩
      have hO5 := OwnL.chg HS.out.out hC' HS.out.apart
      have hE' := hK'.evs
      obtain ⟨Ae, ce, rfl, _, _⟩ := OwnL.form hE'
      have hfl : (k'.evs.flatMap encEv).length = k'.evs.length * 4 := by rw [List.length_flatMap]; simp [encEv_len, List.map_const', Nat.mul_comm]
      have HFL := Lib.hid hfl
      have HO5 := Lib.hid hO5
      have HE' := Lib.hid hE'
      have hsz5 := hC'.size
      have hsz0 := HS.out.ext.size
      clear hfl hO5 hE'
      go_wp2_with (at_builtin; (refine wpList_append_row rfl _ _ 28 rfl w.heap.size 60 Try.underlying28 infoEv rfl (by decide) _ P.length (P.flatMap encEv) rfl HO5.out Ae k'.evs.length ce (k'.evs.flatMap encEv) rfl HFL.out ?_ ?_ ?_ ?_ ?_ ?_; (· exact own_news HE'.out); (· exact fun u hu => by obtain ⟨x, _, hx⟩ := List.mem_flatMap.1 hu; exact encEv_one x u hx); (· omega); (· unfold maxLen; omega); (· omega); (intro v6 w6 hown6 hg6 hloc6 _)))
      exact ⟨⟨m + 1, _, _, _, _, _, _, rfl, rfl, HNX.out _ _ _ _ _ hK' hC' hf' hH' hown6 hg6 hloc6⟩, by simp [intOf]; omega⟩
    · have hme : m = l.length := by omega
      subst hme
      have hall := hS.run.all
      have HS := Lib.hid hS
      obtain ⟨Av, cv, rfl, _, _⟩ := OwnL.form HS.out.out
      clear hS
      go_wp2_with (fail)
      go_ret
      refine ⟨_, rfl, ?_, HS.out.ext⟩
      rw [hall]
      exact HS.out.out
theorem long27_any (vl : Value) (l : List Inp) (w : World) (hl : SlR InpR 3 Any w vl l) :
    Calls Try.prog 7 #[vl] w fun e w' => e = .returned (.bool (longB l)) ∧ w = w' := by
  obtain ⟨Al, cl, rfl, hcl, hcm2⟩ := SlR.form hl
  unfold maxLen at hcm2
  have HL := Lib.hid hl
  obtain ⟨m, hm⟩ : ∃ m, longB l = m := ⟨_, rfl⟩
  rw [hm]
  have HM := Lib.hid hm
  clear hm hl
  have hend : ∀ k, k ≤ l.length → (l.take k).any longI = false → (k = 300 ∨ k = l.length ∧ k ≤ 300) → m = decide (l.length > 250) := fun k hk h h2 => by
    rw [← HM.out]
    unfold longB
    have e : (l.take 300).any longI = false := by
      rcases h2 with rfl | ⟨rfl, h3⟩
      · exact h
      · rw [List.take_of_length_le h3]; rwa [List.take_length] at h
    rw [e, Bool.false_or]
  have HEND := Lib.hid hend
  clear hend
  go_enter Try.func7, Try.ntmps7
  go_wp2_with (fail)
  go_loopw [3] (fun i wr => ∃ k : Nat, k ≤ l.length ∧ k ≤ 300 ∧ i = .int .i64 k ∧ Hid ((l.take k).any longI = false) ∧ w = wr) (fun i _ => l.length - (intOf i).toNat)
  case atStart => exact ⟨0, Nat.zero_le _, by omega, rfl, Lib.hid rfl, rfl⟩
  case round =>
    obtain ⟨k, hk, hk3, rfl, ht, rfl⟩ := hrel
    by_cases hlt : k < l.length
    · by_cases h3 : k < 300
      · obtain ⟨b, o, rfl, x0, ⟨vd, x1, hd⟩, x2⟩ := SlR.at HL.out hlt
        obtain ⟨h4, h5⟩ := any_step hlt ht.out
        have hI : longI l[k] = (decide (l[k].dems.length > 20) || l[k].dems.any longD) := rfl
        have H4 := Lib.hid h4
        have H5 := Lib.hid (fun h => h5 300 h3 h)
        have HI := Lib.hid hI
        clear h4 h5 hI
        obtain ⟨Ad, cd, rfl, hcd, hcd2⟩ := SlR.form hd
        unfold maxLen at hcd2
        have HD := Lib.hid hd
        clear hd x0 x2
        have hyes : longI l[k] = true → m = true := fun h => by
          rw [← HM.out]
          unfold longB
          rw [H5.out h, Bool.true_or]
        have HY := Lib.hid hyes
        clear hyes H5
        generalize l[k].dems = ds at *
        cases hd1 : decide (20 < (ds.length : Int)) with
        | true =>
          have hm := HY.out (by rw [HI.out, show decide (ds.length > 20) = true from decide_eq_true (by have := of_decide_eq_true hd1; omega)]; rfl)
          subst hm
          go_wp2_with (fail)
          go_ret
          exact ⟨rfl, rfl⟩
        | false =>
          have hd2 : ds.length ≤ 20 := by have := of_decide_eq_false hd1; omega
          go_wp2_with (fail)
          go_loopw [4] (fun i wr => ∃ j : Nat, j ≤ ds.length ∧ i = .int .i64 j ∧ Hid ((ds.take j).any longD = false) ∧ w = wr) (fun i _ => ds.length - (intOf i).toNat)
          case atStart => exact ⟨0, Nat.zero_le _, rfl, Lib.hid rfl, rfl⟩
          case round =>
            obtain ⟨j, hj, rfl, htj, rfl⟩ := hrel
            by_cases hltj : j < ds.length
            · obtain ⟨b', o', rfl, r, y0, hI0⟩ := SlR.at HD.out hltj
              obtain ⟨h4, h5⟩ := any_step hltj htj.out
              obtain ⟨Ar, cr, rfl, _, _, _⟩ := hI0
              rw [Nat.mul_one] at y0
              have H6 := Lib.hid h4
              have H7 := Lib.hid (h5 ds.length hltj)
              have hD0 : longD ds[j] = decide (ds[j].length > 20) := rfl
              clear h4 h5
              generalize ds[j] = z at *
              cases hz : decide (20 < (z.length : Int)) with
              | true =>
                have hz2 : longD z = true := by rw [hD0]; exact decide_eq_true (by have := of_decide_eq_true hz; omega)
                have h8 := H7.out hz2
                rw [List.take_length] at h8
                have hm := HY.out (by rw [HI.out, h8, Bool.or_true])
                subst hm
                clear hz2 h8
                go_wp2_with (fail)
                go_ret
                exact ⟨rfl, rfl⟩
              | false =>
                have hz2 : longD z = false := by rw [hD0]; exact decide_eq_false (by have := of_decide_eq_false hz; omega)
                have h8 := Lib.hid (H6.out hz2)
                clear hz2 hD0
                go_wp2_with (fail)
                exact ⟨⟨j + 1, hltj, rfl, h8, (by first | trivial | rfl)⟩, by simp [intOf]; omega⟩
            · have hje : j = ds.length := by omega
              subst hje
              have h8 := htj.out
              rw [List.take_length] at h8
              have h9 := Lib.hid (H4.out (by rw [HI.out, h8, show decide (ds.length > 20) = false from decide_eq_false (by omega)]; rfl))
              clear h8
              go_wp2_with (fail)
              exact ⟨⟨k + 1, hlt, by omega, rfl, h9, (by first | trivial | rfl)⟩, by simp [intOf]; omega⟩
      · have hk9 : k = 300 := by omega
        subst hk9
        have hm := HEND.out 300 hk ht.out (.inl rfl)
        go_wp2_with (fail)
        go_ret
        exact ⟨by rw [hm]; first | rfl | (simp; omega), rfl⟩
    · have hke : k = l.length := by omega
      subst hke
      have hm := HEND.out _ hk ht.out (.inr ⟨rfl, hk3⟩)
      go_wp2_with (fail)
      go_ret
      exact ⟨by rw [hm]; first | rfl | (simp; omega), rfl⟩
end Go.Proofs.Ytlaflbepidkmnaa
/- Au1 -/
namespace Go.Proofs.Ytlaflbepidkmnaa
open Go.RowKit
attribute [local go_sem] setCell_twice ByteArray.toList_eq str_list Ext.alloc Ext.drew
set_option linter.unusedSimpArgs false
set_option linter.unusedVariables false
set_option maxRecDepth 100000
set_option maxHeartbeats 1600000
attribute [local irreducible] Calls

abbrev evA (e : Ev) : Value := .agg #[.int .i64 e.tick, .int .i64 e.kind, .int .i64 e.task, .int .i64 e.n]
def endB (e : Ev) : Bool := decide (e.kind = 8) || decide (e.kind = 9)
theorem ends_au (e : Ev) (w : World) : Calls Try.prog 26 #[evA e] w fun r w' => r = .returned (.bool (endB e)) ∧ Ext w w' := by
  have hX := (Ext.refl w).alloc (.cells #[.int .i64 e.tick, .int .i64 e.kind, .int .i64 e.task, .int .i64 e.n] 60)
  unfold evA endB
  rw [show decide (e.kind = 8) = (e.kind == 8) from rfl, show decide (e.kind = 9) = (e.kind == 9) from rfl]
  generalize e.kind = k at *
  cases h8 : (k == 8) with
  | true =>
    go_enter Try.func26, Try.ntmps26
    go_wp2_with (fail)
    go_ret
    exact ⟨rfl, hX⟩
  | false =>
    go_enter Try.func26, Try.ntmps26
    go_wp2_with (fail)
    go_ret
    exact ⟨rfl, hX⟩
def runsA (now : Int) (e : Ev) : Int := if e.kind = 4 ∨ e.kind = 6 then e.task else if e.kind = 10 then -1 else now
theorem runs_au (now : Int) (e : Ev) (w : World) : Calls Try.prog 29 #[.int .i64 now, evA e] w fun r w' => r = .returned (.int .i64 (runsA now e)) ∧ Ext w w' := by
  have hX := (Ext.refl w).alloc (.cells #[.int .i64 e.tick, .int .i64 e.kind, .int .i64 e.task, .int .i64 e.n] 60)
  unfold evA runsA
  cases h4 : (e.kind == 4) with
  | true =>
    rw [if_pos (.inl (eq_of_beq h4))]
    go_enter Try.func29, Try.ntmps29
    go_wp2_with (fail)
    go_ret
    exact ⟨rfl, hX⟩
  | false =>
    cases h6 : (e.kind == 6) with
    | true =>
      rw [if_pos (.inr (eq_of_beq h6))]
      go_enter Try.func29, Try.ntmps29
      go_wp2_with (fail)
      go_ret
      exact ⟨rfl, hX⟩
    | false =>
      rw [if_neg (by simp at h4 h6; omega)]
      cases h10 : (e.kind == 10) with
      | true =>
        rw [if_pos (eq_of_beq h10)]
        go_enter Try.func29, Try.ntmps29
        go_wp2_with (fail)
        go_ret
        exact ⟨rfl, hX⟩
      | false =>
        rw [if_neg (by simp at h10; omega)]
        go_enter Try.func29, Try.ntmps29
        go_wp2_with (fail)
        go_ret
        exact ⟨rfl, hX⟩
/-- the first of a row that p tells; -1: none -/
def idxE (p : Ev → Bool) (L : List Ev) : Int := match L.findIdx? p with | some i => i | none => -1
theorem idx_hit {p : Ev → Bool} {L : List Ev} {k : Nat} (hk : k < L.length) (ha : (L.take k).all (fun e => !p e) = true) (hp : p L[k] = true) : idxE p L = k := by
  unfold idxE
  have : L.findIdx? p = some k := by
    rw [List.findIdx?_eq_some_iff_getElem]
    refine ⟨hk, hp, fun j hj => ?_⟩
    rw [List.all_eq_true] at ha
    have := ha L[j] (List.mem_iff_getElem.2 ⟨j, by rw [List.length_take]; omega, by rw [List.getElem_take]⟩)
    simpa using this
  rw [this]
theorem idx_miss {p : Ev → Bool} {L : List Ev} (ha : L.all (fun e => !p e) = true) : idxE p L = -1 := by
  unfold idxE
  have : L.findIdx? p = none := by
    rw [List.findIdx?_eq_none_iff]
    intro e he
    rw [List.all_eq_true] at ha
    simpa using ha e he
  rw [this]
theorem idx_any (p : Ev → Bool) (L : List Ev) : decide (0 ≤ idxE p L) = L.any p := by
  unfold idxE
  cases h : L.findIdx? p with
  | none =>
    rw [List.findIdx?_eq_none_iff] at h
    have : L.any p = false := by rw [List.any_eq_false]; exact fun e he => by simpa using h e he
    rw [this]; rfl
  | some i =>
    obtain ⟨hi, hp, _⟩ := List.findIdx?_eq_some_iff_getElem.1 h
    have : L.any p = true := List.any_eq_true.2 ⟨_, List.getElem_mem hi, hp⟩
    rw [this]; simp
theorem index_ev (va : Value) (L : List Ev) (c : FuncId) (cs : Array Value) (p : Ev → Bool) (w : World) (ha : Evs w va L) (hcf : ∀ (args : Array Value) (w : World), (callFunc c args).run Try.prog w = .ok (.enter c args) w)
    (hp : ∀ w', Ext w w' → ∀ e ∈ L, Calls Try.prog c (#[evA e] ++ cs) w' fun r w2 => r = .returned (.bool (p e)) ∧ Ext w' w2) :
    Calls Try.prog 46 #[va, .func (.func c) #[] cs] w fun r w' => r = .returned (.int .i64 (idxE p L)) ∧ Ext w w' := by
  obtain ⟨A, c', rfl, hc1, hc2⟩ := ha.form
  unfold maxLen at hc2
  have HA := Lib.hid ha
  have HP := Lib.hid hp
  obtain ⟨r, hr⟩ : ∃ r, idxE p L = r := ⟨_, rfl⟩
  rw [hr]
  have HR := Lib.hid hr
  clear ha hr hp
  go_enter Try.func46, Try.ntmps46
  go_wp2_with (fail)
  go_loopw [5, 8] (fun _ i wr => ∃ k : Nat, k ≤ L.length ∧ i = .int .i64 k ∧ Hid ((L.take k).all (fun e => !p e) = true) ∧ Ext w wr) (fun _ i _ => L.length - (intOf i).toNat)
  case atStart => exact ⟨0, Nat.zero_le _, rfl, Lib.hid rfl, Ext.refl w⟩
  case round =>
    obtain ⟨k, hk, rfl, hall, hX⟩ := hrel
    by_cases hlt : k < L.length
    · obtain ⟨b, o, rfl, hx⟩ := HA.out.at hlt
      obtain ⟨x0, x1, x2, x3⟩ := hx wr hX
      have hs : p L[k] = false → (L.take (k + 1)).all (fun e => !p e) = true := fun h => by
        rw [List.take_succ_eq_append_getElem hlt, List.all_append, hall.out]; simp [h]
      have hh : p L[k] = true → r = k := fun h => by rw [← HR.out]; exact idx_hit hlt hall.out h
      have HS := Lib.hid hs
      have HH := Lib.hid hh
      have HM := Lib.hid (List.getElem_mem hlt)
      rw [evAt_in hlt] at x0 x1 x2 x3
      clear hs hh hx
      generalize L[k] = e at *
      go_wp2_with (fail)
      refine (HP.out wr hX e HM.out).mono ?_
      rintro _ w2 ⟨rfl, hX2⟩
      have hX3 := hX.trans hX2
      cases hE : p e with
      | true =>
        have hrk := HH.out hE
        subst hrk
        go_wp2_with (fail)
        go_ret
        exact ⟨rfl, hX3⟩
      | false =>
        have h5 := Lib.hid (HS.out hE)
        go_wp2_with (fail)
        exact ⟨⟨k + 1, hlt, rfl, h5, hX3⟩, by simp [intOf]; omega⟩
    · have hke : k = L.length := by omega
      subst hke
      have h5 := hall.out
      rw [List.take_length] at h5
      have hr1 : r = -1 := by rw [← HR.out]; exact idx_miss h5
      subst hr1
      clear h5
      go_wp2_with (fail)
      go_ret
      exact ⟨rfl, hX⟩
theorem contains_ev (va : Value) (L : List Ev) (c : FuncId) (cs : Array Value) (p : Ev → Bool) (w : World) (ha : Evs w va L) (hcf : ∀ (args : Array Value) (w : World), (callFunc c args).run Try.prog w = .ok (.enter c args) w)
    (hp : ∀ w', Ext w w' → ∀ e ∈ L, Calls Try.prog c (#[evA e] ++ cs) w' fun r w2 => r = .returned (.bool (p e)) ∧ Ext w' w2) :
    Calls Try.prog 30 #[va, .func (.func c) #[] cs] w fun r w' => r = .returned (.bool (L.any p)) ∧ Ext w w' := by
  have HI := Lib.hid (index_ev va L c cs p w ha hcf hp)
  have hE := idx_any p L
  clear hp ha hcf
  go_enter Try.func30, Try.ntmps30
  go_wp2_with (fail)
  refine HI.out.mono ?_
  rintro _ w2 ⟨rfl, hX⟩
  have HE := Lib.hid hE
  clear hE
  generalize idxE p L = r at *
  go_wp2_with (fail)
  go_ret
  exact ⟨by rw [← HE.out]; rfl, hX⟩
end Go.Proofs.Ytlaflbepidkmnaa

/- AuR -/
namespace Go.Proofs.Ytlaflbepidkmnaa
open Go.RowKit
attribute [local go_sem] setCell_twice ByteArray.toList_eq str_list Ext.alloc Ext.drew
set_option linter.unusedSimpArgs false
set_option linter.unusedVariables false
set_option maxRecDepth 100000
set_option maxHeartbeats 1600000
attribute [local irreducible] Calls

abbrev nilV : Value := .slice none 0 0
def enc1 (v : Value) : List Value := [v]
def tickL (L : List Ev) (t : Nat) : List Ev := L.filter fun e => decide (e.tick = (t : Int))
theorem tickL_snoc (L : List Ev) (e : Ev) (t : Nat) : tickL (L ++ [e]) t = if e.tick = (t : Int) then tickL L t ++ [e] else tickL L t := by
  unfold tickL
  rw [List.filter_append]
  by_cases h : e.tick = (t : Int)
  · rw [if_pos h]; simp [h]
  · rw [if_neg h]; simp [h]
def evIn0 (e : Ev) : Prop := -1099511627776 ≤ e.tick ∧ e.tick ≤ 1099511627776
structure TkI (w : World) (B gO : Nat) (vs : List Value) (L : List Ev) (n : Nat) : Prop where
  row : RowBk enc1 w gO 28 vs
  len : vs.length = n
  each : ∀ t, t < n → OwnL encEv w B 60 4 (vs.getD t nilV) (tickL L t)
  sep : ∀ t t', t < n → t' < n → t ≠ t' → ∀ q, (vs.getD t nilV).ownBlock = some q → (vs.getD t' nilV).ownBlock ≠ some q
theorem TkI.ext {w w' : World} {B gO : Nat} {vs : List Value} {L : List Ev} {n : Nat} (h : TkI w B gO vs L n) (hx : Ext w w') : TkI w' B gO vs L n :=
  ⟨h.row.ext hx, h.len, fun t ht => OwnL.below (h.each t ht) hx.below, h.sep⟩
def TkS (gO : Nat) (vs : List Value) (ge : Nat) (cs : Array Value) (w : World) : Prop := RowBk enc1 w gO 28 vs ∧ Blk w ge cs 60
theorem TkS.ext {gO : Nat} {vs : List Value} {ge : Nat} {cs : Array Value} {w w' : World} (h : TkS gO vs ge cs w) (hx : Ext w w') : TkS gO vs ge cs w' := ⟨h.1.ext hx, h.2.ext hx⟩
theorem row1_at {w : World} {g : Nat} {t : TypeId} {vs : List Value} (h : RowBk enc1 w g t vs) {i : Nat} (hi : i < vs.length) : w.cell? ⟨g, i, none⟩ = some (vs.getD i nilV) := by
  have := h.at (size := 1) (fun _ => rfl) (i := i) (j := 0) hi (by decide)
  rw [Nat.mul_one, Nat.add_zero] at this
  rw [this, getD_at hi]
  rfl
theorem row1_set {w : World} {g : Nat} {t : TypeId} {vs : List Value} (h : RowBk enc1 w g t vs) (i : Nat) (u : Value) : RowBk enc1 (w.setCell ⟨g, i, none⟩ u) g t (vs.set i u) := by
  have := h.set (size := 1) (fun _ => rfl) (i := i) (j := 0) (u := u) (x' := u) (by decide) (fun _ => rfl)
  rw [Nat.mul_one, Nat.add_zero] at this
  exact this
theorem TkI.push {w0 w w2 w3 w4 : World} {B gO t n : Nat} {vs : List Value} {L : List Ev} {e : Ev} {v3 : Value} (h : TkI w B gO vs L n) (ht : t < n) (he : e.tick = (t : Int)) (hx : Ext w w2)
    (hown : OwnL encEv w3 B 60 4 v3 (tickL L t ++ [e])) (hg : w2.grownBy w3 (vs.getD t nilV).ownBlock) (hloc : v3.ownBlock = (vs.getD t nilV).ownBlock ∨ v3.ownBlock = some w2.heap.size) (hx4 : Ext w3 w4) :
    TkI (w4.setCell ⟨gO, t, none⟩ v3) B gO (vs.set t v3) (L ++ [e]) n := by
  have h2 := h.ext hx
  have hl := h.len
  have hrow3 : RowBk enc1 w3 gO 28 vs := Blk.grown h2.row hg (fun e => by
    obtain ⟨cs, hB⟩ := OwnL.block (h2.each t ht) e
    have := (Blk.type hB (show Blk w2 gO _ 28 from h2.row)).1
    exact absurd this (by decide))
  have hgd : ∀ t', (vs.set t v3).getD t' nilV = if t = t' then v3 else vs.getD t' nilV := fun t' => getD_set (by omega)
  have hlt : ∀ t', t' < n → ∀ q, (vs.getD t' nilV).ownBlock = some q → q < w2.heap.size := fun t' ht' q hq => (OwnL.lt (h2.each t' ht') q hq).2
  refine ⟨row1_set (hrow3.ext hx4) t v3, by rw [List.length_set]; exact hl, fun t' ht' => ?_, fun a b ha hb hne q hq => ?_⟩
  · rw [hgd, tickL_snoc]
    have hB4 : Blk w4 gO _ 28 := hrow3.ext hx4
    by_cases ett : t = t'
    · subst ett
      rw [if_pos rfl, if_pos he]
      have := OwnL.below hown hx4.below
      exact OwnL.set this (a := ⟨gO, t, none⟩) (own_ne_blk this hB4 (by decide)) v3
    · rw [if_neg ett, if_neg (by omega)]
      have h3 := OwnL.grown (h2.each t' ht') hg (fun k hk e => h.sep t' t ht' ht (fun e => ett e.symm) k hk e)
      have h4 := OwnL.below h3 hx4.below
      exact OwnL.set h4 (a := ⟨gO, t, none⟩) (own_ne_blk h4 hB4 (by decide)) v3
  · rw [hgd] at hq ⊢
    by_cases ea : t = a
    · rw [if_pos ea] at hq
      rw [if_neg (by omega)]
      intro hq2
      rcases hloc with h5 | h5
      · exact h.sep t b ht hb (by omega) q (h5.symm.trans hq) hq2
      · rw [h5] at hq
        have := hlt b hb q hq2
        have := Option.some.inj hq
        omega
    · rw [if_neg ea] at hq
      by_cases eb : t = b
      · rw [if_pos eb]
        intro hq2
        rcases hloc with h5 | h5
        · exact h.sep a t ha ht (by omega) q hq (h5.symm.trans hq2)
        · rw [h5] at hq2
          have := hlt a ha q hq
          have := Option.some.inj hq2
          omega
      · rw [if_neg eb]
        exact h.sep a b ha hb hne q hq
theorem TkI.skip {w : World} {B gO n : Nat} {vs : List Value} {L : List Ev} {e : Ev} (h : TkI w B gO vs L n) (he : ∀ t, t < n → e.tick ≠ (t : Int)) : TkI w B gO vs (L ++ [e]) n :=
  ⟨h.row, h.len, fun t ht => by rw [tickL_snoc, if_neg (he t ht)]; exact h.each t ht, h.sep⟩
theorem infoEvs1 : (Try.prog.info? 28).map (fun i => (i.zero, i.size, i.bytes)) = some (some (.slice none 0 0), 1, 24) := by kernel_rfl
theorem make_evs {n : Nat} (h : n ≤ 1000) (w : World) : (Instr.makeSlice 68 (.int .i64 n) (.int .i64 n)).run Try.prog w = .ok (.slice (some ⟨w.heap.size, 0, none⟩) n n) (w.alloc (.cells ((List.replicate n nilV).flatMap enc1).toArray 28)) := by
  obtain ⟨i, hi, hz0, hz1, hz2⟩ := info_parts infoEvs1
  have := run_make w 68 28 i (.slice none 0 0) Try.underlying68 hi hz0 .i64 .i64 n n (by omega) (Int.le_refl _) (by rw [hz2]; omega) (by omega)
  rw [hz1, Int.toNat_natCast, Nat.mul_one] at this
  have hf : ((List.replicate n nilV).flatMap enc1).toArray = Array.replicate n nilV := by
    refine Array.ext' ?_
    rw [Array.toList_replicate]
    show (List.replicate n nilV).flatMap enc1 = _
    clear this h hi hz0 hz1 hz2
    induction n with
    | zero => rfl
    | succ n ih => rw [List.replicate_succ, List.flatMap_cons, ih]; rfl
  rw [this, hf]
  have e : madeCells (.slice none 0 0 : Value).cells n = Array.replicate n (.slice none 0 0) := by
    refine Array.ext' ?_
    show (madeCells #[(.slice none 0 0 : Value)] n).toList = _
    rw [toList_madeCells_one]
    simp
  rw [e]
/-- events of a tick, at a place -/
def EvsR (w : World) (b o : Nat) (xs : List Ev) : Prop := ∃ r, w.cell? ⟨b, o, none⟩ = some r ∧ Evs w r xs
theorem EvsR.ext {w w' : World} {b o : Nat} {xs : List Ev} (h : EvsR w b o xs) (hx : Ext w w') : EvsR w' b o xs := by
  obtain ⟨r, h1, h2⟩ := h
  exact ⟨r, hx.cell h1, h2.ext hx⟩
theorem TkI.read {w : World} {B gO n : Nat} {vs : List Value} {L : List Ev} (h : TkI w B gO vs L n) (hn : n ≤ 1000) : SlR EvsR 1 Any w (.slice (some ⟨gO, 0, none⟩) n n) ((List.range n).map (tickL L)) := by
  refine ⟨_, _, by rw [List.length_map, List.length_range], by rw [List.length_map, List.length_range]; exact Nat.le_refl _, by unfold maxLen; omega, fun _ => ⟨gO, 0, rfl, trivial, fun i hi => ?_⟩⟩
  have hi' : i < n := by simpa using hi
  have hl := h.len
  rw [List.getElem_map, List.getElem_range, Nat.zero_add, Nat.mul_one]
  exact ⟨_, row1_at h.row (by omega), (h.each i hi').evs⟩
theorem ticks_au (va : Value) (L : List Ev) (n : Nat) (w : World) (ha : Evs w va L) (hn : n ≤ 1000) (hl : L.length ≤ 1000000) (hin : ∀ e ∈ L, evIn0 e) :
    Calls Try.prog 28 #[va, .int .i64 n] w fun r w' => ∃ v, r = .returned v ∧ SlR EvsR 1 Any w' v ((List.range n).map (tickL L)) ∧ Ext w w' := by
  obtain ⟨Ae, ce, rfl, hce1, hce2⟩ := ha.form
  unfold maxLen at hce2
  have hmk := make_evs hn
  have hmx : max (n : Int) 0 = n := by omega
  have HE := Lib.hid ha
  have HIN := Lib.hid hin
  clear ha hin
  go_enter Try.func28, Try.ntmps28
  go_upto_region 2 with (fail)
  generalize hW : World.alloc _ (.cells _ 28) = W
  have hX : Ext w W := by rw [← hW]; exact (Ext.refl w).alloc _
  have hT : TkI W w.heap.size w.heap.size (List.replicate n nilV) [] n := by
    have hg : ∀ t, (List.replicate n nilV).getD t nilV = nilV := fun t => by
      simp only [List.getD, List.getElem?_replicate]
      split <;> rfl
    refine ⟨by rw [← hW]; exact Blk.new _ _ _, List.length_replicate, fun t _ => ?_, fun t t' _ _ _ q hq => ?_⟩
    · rw [hg]; exact OwnL.nil
    · rw [hg] at hq; cases hq
  clear hW hmk
  have HX := Lib.hid hX
  have HT := Lib.hid hT
  have hgs := hX.size
  clear hX hT
  go_wp2_with (fail)
  go_loopw [7, 13] (fun _ i wr => ∃ (k : Nat) (vs : List Value), k ≤ L.length ∧ i = .int .i64 k ∧ TkI wr w.heap.size w.heap.size vs (L.take k) n ∧ Ext w wr) (fun _ i _ => L.length - (intOf i).toNat)
  case atStart => exact ⟨0, _, Nat.zero_le _, rfl, HT.out, HX.out⟩
  case round =>
    obtain ⟨k, vs, hk, rfl, hTk, hXk⟩ := hrel
    by_cases hlt : k < L.length
    · have hin := HIN.out _ (List.getElem_mem hlt)
      have hsn : L.take (k + 1) = L.take k ++ [L[k]] := List.take_succ_eq_append_getElem hlt
      have hpl : (L.take k).length ≤ 1000000 := by rw [List.length_take]; omega
      obtain ⟨b, o, rfl, hx⟩ := HE.out.at hlt
      obtain ⟨x0, x1, x2, x3⟩ := hx wr hXk
      rw [evAt_in hlt] at x0 x1 x2 x3
      have HSN := Lib.hid hsn
      have HPL := Lib.hid hpl
      clear hsn hpl hx
      generalize L[k] = e at *
      generalize hPk : L.take k = P at *
      clear hPk
      go_upto_region 5 with (fail)
      have hX5 := (Ext.refl wr).alloc (.cells #[.int .i64 e.tick, .int .i64 e.kind, .int .i64 e.task, .int .i64 e.n] 60)
      have hB5 := Blk.new wr #[.int .i64 e.tick, .int .i64 e.kind, .int .i64 e.task, .int .i64 e.n] 60
      generalize wr.alloc _ = W5 at hX5 hB5 ⊢
      have hrl : ∀ t, t < n → ∀ q, (vs.getD t nilV).ownBlock = some q → q < wr.heap.size := fun t ht q hq => (OwnL.lt (hTk.each t ht) q hq).2
      generalize wr.heap.size = ge at hB5 hrl ⊢
      have hce0 := hB5.cell
      have HRL := Lib.hid hrl
      have HBE := Lib.hid hB5
      have HXR := Lib.hid (hXk.trans hX5)
      have HTK := Lib.hid (hTk.ext hX5)
      clear x0 x1 x2 x3 hB5 hTk hX5 hXk hrl
      cases h0 : decide (0 ≤ e.tick) with
      | false =>
        have hnx := HTK.out.skip (e := e) (fun t _ => by have : e.tick < 0 := by simpa using h0
                                                         omega)
        rw [← HSN.out] at hnx
        have HNX := Lib.hid hnx
        clear hnx
        go_wp2_with (fail)
        exact ⟨⟨k + 1, vs, hlt, rfl, HNX.out, HXR.out⟩, by simp [intOf]; omega⟩
      | true =>
        cases h1 : decide (e.tick < (n : Int)) with
        | false =>
          have hnx := HTK.out.skip (e := e) (fun t ht => by have : (n : Int) ≤ e.tick := by simpa using h1
                                                            omega)
          rw [← HSN.out] at hnx
          have HNX := Lib.hid hnx
          clear hnx
          go_wp2_with (fail)
          exact ⟨⟨k + 1, vs, hlt, rfl, HNX.out, HXR.out⟩, by simp [intOf]; omega⟩
        | true =>
          obtain ⟨tick, kind, task, nn⟩ := e
          dsimp only at *
          have h0' : 0 ≤ tick := of_decide_eq_true h0
          have h1' : tick < (n : Int) := of_decide_eq_true h1
          obtain ⟨t, rfl⟩ : ∃ t : Nat, tick = (t : Int) := ⟨tick.toNat, by omega⟩
          have htn : t < n := by omega
          clear h0 h1 h0' h1'
          have hvl : t < vs.length := by have := HTK.out.len; omega
          have hOt := HTK.out.each t htn
          obtain ⟨At, ct, hvt, _, _⟩ := OwnL.form hOt
          have hTl : (tickL P t).length ≤ 1000000 := Nat.le_trans (List.length_filter_le _ _) HPL.out
          go_upto_region 6 with (fail)
          have hS0 : TkS w.heap.size vs ge #[.int .i64 t, .int .i64 kind, .int .i64 task, .int .i64 nn] W5 := ⟨HTK.out.row, HBE.out⟩
          have hcS : ∀ w', TkS w.heap.size vs ge #[.int .i64 t, .int .i64 kind, .int .i64 task, .int .i64 nn] w' → w'.cell? ⟨w.heap.size, t, none⟩ = some (.slice At (tickL P t).length ct) := fun w' h => by rw [row1_at h.1 hvl, hvt]
          have hcE : ∀ w', TkS w.heap.size vs ge #[.int .i64 t, .int .i64 kind, .int .i64 task, .int .i64 nn] w' → ∀ j, w'.cell? ⟨ge, j, none⟩ = #[.int .i64 t, .int .i64 kind, .int .i64 task, .int .i64 nn][j]? := fun w' h => h.2.cell
          clear hce0
          refine wp_region_mixZ (T := [9, 10, 12]) (z := 12) (S := TkS w.heap.size vs ge #[.int .i64 t, .int .i64 kind, .int .i64 task, .int .i64 nn]) (W := W5) (fun _ _ h hx => h.ext hx) (by kernel_rfl) (by kernel_rfl) (by kernel_rfl) (Ext.refl W5).drew hS0 (fun _ _ h => h) (fun K hK => ?_)
          (repeat (first | (refine hX_skip ?_ ?_; (· rfl)) | (apply hX_and; (· rfl); (· rfl); (· rfl); (· rfl); (· rfl); simp only [Act.put, List.setIfInBounds_toArray, List.set_cons_zero, List.set_cons_succ]) | (apply hX_or; (· rfl); (· rfl); (· rfl); (· rfl); (· rfl); simp only [Act.put, List.setIfInBounds_toArray, List.set_cons_zero, List.set_cons_succ]) | (apply hX_off; (· rfl); (· rfl); (· rfl); simp only [Act.put, List.setIfInBounds_toArray, List.set_cons_zero, List.set_cons_succ]) | (apply hX_val; (· rfl); (· intro w hS; go_simp; with_reducible rfl); (· rfl); simp only [Act.put, List.setIfInBounds_toArray, List.set_cons_zero, List.set_cons_succ]) | (apply hX_call; (· rfl); (· rfl); (· intro w hS; go_simp; exact ⟨rfl, rfl⟩); (· intro w hS; fail); simp only [Act.put, List.setIfInBounds_toArray, List.set_cons_zero, List.set_cons_succ]) | (apply hX_if; (· rfl); (· rfl); (· rfl); (· intro hif w hS; go_simp; with_reducible rfl); simp only [Act.put, List.setIfInBounds_toArray, List.set_cons_zero, List.set_cons_succ]) | (apply hX_ifcall; (· rfl); (· rfl); (· rfl); (· intro hif w hS; go_simp; exact ⟨rfl, rfl⟩); (· intro hif w hS; fail); simp only [Act.put, List.setIfInBounds_toArray, List.set_cons_zero, List.set_cons_succ]))); refine hX_nil ?_
          refine hK _ ?_
          clear hK K
          refine wpZ_want (i := 9) (by kernel_rfl) rfl (by simp [Region.wanted, yielded]) ?_
          intro w1 hx1 K hK
          go_simp
          have hE1 := hx1.alloc (.cells #[.int .i64 t, .int .i64 kind, .int .i64 task, .int .i64 nn] 60)
          have hN1 := Blk.new w1 #[.int .i64 t, .int .i64 kind, .int .i64 task, .int .i64 nn] 60
          refine hK _ _ (hS0.ext hE1) ?_
          clear hK K hx1
          generalize w1.heap.size = g1 at hN1 ⊢
          generalize w1.alloc _ = W1 at hN1 hE1 ⊢
          refine wpZ_want (i := 10) (by kernel_rfl) rfl (by simp [Region.wanted, yielded]) ?_
          intro w2 hx2 K hK
          have hE2 := hE1.trans hx2
          refine wp_push _ _ 28 rfl w.heap.size 60 Try.underlying28 infoEv rfl (by decide) (by decide) encEv (tickL P t) _ rfl (by rw [← hvt]; exact OwnL.below hOt hE2.below) ⟨t, kind, task, nn⟩ g1 #[.int .i64 t, .int .i64 kind, .int .i64 task, .int .i64 nn] 60 rfl (hN1.ext hx2) rfl rfl (encEv_one _) (by omega) (by have := hE2.size; have := HXR.out.size; omega) ?_
          intro v3 w3 hown3 hg3 hloc3 _
          rw [← hvt] at hg3 hloc3
          have hg3 : w2.grownBy w3 (vs.getD t nilV).ownBlock := hg3
          have hrow3 : RowBk enc1 w3 w.heap.size 28 vs := Blk.grown (HTK.out.ext hE2).row hg3 (fun e => by
            obtain ⟨cs, hB⟩ := OwnL.block (OwnL.below hOt hE2.below) e
            have := (Blk.type hB (show Blk w2 w.heap.size _ 28 from (HTK.out.ext hE2).row)).1
            exact absurd this (by decide))
          have hne3 : (vs.getD t nilV).ownBlock ≠ some ge := fun e => by have := HRL.out t htn ge e; omega
          have hev3 := (HBE.out.ext hE2).grown hg3 hne3
          refine hK _ _ ⟨hrow3, hev3⟩ ?_
          clear hK K
          refine wpZ_last (by kernel_rfl) rfl (by simp [Region.wanted, yielded]) ?_
          intro w4 hx4 K hK
          have hrow4 := hrow3.ext hx4
          have hr4 := row1_at hrow4 hvl
          have hf4 := fun j => hrow4.free j
          have hpush := HTK.out.push (w0 := w) (e := ⟨t, kind, task, nn⟩) htn rfl hE2 hown3 hg3 hloc3 hx4
          rw [← HSN.out] at hpush
          have hXe : Ext w (w4.setCell ⟨w.heap.size, t, none⟩ v3) := (((HXR.out.trans hE2).grown hg3 (fun q hq => (OwnL.lt hOt q hq).1)).trans hx4).set (Nat.le_refl _) v3
          obtain ⟨A3, c3, rfl⟩ := own_slice hown3
          rw [List.length_append, List.length_singleton] at hpush hXe
          have HPU := Lib.hid hpush
          have HXE := Lib.hid hXe
          rw [hvt] at hr4
          clear hrow4 hpush hXe hown3 hg3 hloc3 hrow3 hev3 hcS hcE hx4 hx2 hE1 hE2 hN1
          go_simp
          refine hK _ _ ?_
          clear hK K hr4 hf4
          refine wpZ_done (by kernel_rfl) (fun W9 hX9 => ?_) _
          have hT9 := HPU.out.ext hX9
          have hX9' := HXE.out.trans hX9
          clear hX9
          go_wp2_with (fail)
          exact ⟨⟨k + 1, _, hlt, rfl, hT9, hX9'⟩, by simp [intOf]; omega⟩
    · have hke : k = L.length := by omega
      subst hke
      rw [List.take_length] at hTk
      have hrd := hTk.read hn
      clear hTk
      go_wp2_with (fail)
      go_ret
      exact ⟨_, rfl, hrd, hXk⟩
end Go.Proofs.Ytlaflbepidkmnaa
/- AuR2 -/
namespace Go.Proofs.Ytlaflbepidkmnaa
open Go.RowKit
attribute [local go_sem] setCell_twice ByteArray.toList_eq str_list Ext.alloc Ext.drew
set_option linter.unusedSimpArgs false
set_option linter.unusedVariables false
set_option maxRecDepth 100000
set_option maxHeartbeats 1600000
attribute [local irreducible] Calls

def ranN (now : Int) (x : List Ev) : Int := x.foldl runsA now
def ranE (now : Int) (x : List Ev) : Int := if x.any endB = true then -1 else ranN now x
def ranF (l : List (List Ev)) : List Int × Int := l.foldl (fun p x => (p.1 ++ [ranN p.2 x], ranE p.2 x)) ([], -1)
theorem ranF_snoc (l : List (List Ev)) (x : List Ev) : ranF (l ++ [x]) = ((ranF l).1 ++ [ranN (ranF l).2 x], ranE (ranF l).2 x) := by
  unfold ranF
  rw [List.foldl_append]; rfl
theorem ranF_len (l : List (List Ev)) : (ranF l).1.length = l.length := by
  have : ∀ n, n ≤ l.length → (ranF (l.take n)).1.length = n := by
    intro n
    induction n with
    | zero => intro _; rfl
    | succ n ih =>
      intro hn
      rw [List.take_succ_eq_append_getElem (by omega), ranF_snoc, List.length_append, ih (by omega)]; rfl
  have := this l.length (Nat.le_refl _)
  rwa [List.take_length] at this
theorem callEnds (args : Array Value) (w : World) : (callFunc 26 args).run Try.prog w = .ok (.enter 26 args) w := by
  go_simp
theorem ran_au (va : Value) (L : List Ev) (n : Nat) (w : World) (ha : Evs w va L) (hn : n ≤ 1000) (hl : L.length ≤ 1000000) (hin : ∀ e ∈ L, evIn0 e) :
    Calls Try.prog 15 #[va, .int .i64 n] w fun r w' => ∃ v, r = .returned v ∧ OwnL encI w' w.heap.size 3 1 v (ranF ((List.range n).map (tickL L))).1 ∧ Ext w w' := by
  obtain ⟨Ae, ce, rfl, hce1, hce2⟩ := ha.form
  have HT := Lib.hid (ticks_au (.slice Ae L.length ce) L n w ha hn hl hin)
  have hTLen : ((List.range n).map (tickL L)).length = n := by simp
  clear ha hin
  go_enter Try.func15, Try.ntmps15
  go_wp2_with (fail)
  refine HT.out.mono ?_
  rintro _ W ⟨vt, rfl, hR, hX⟩
  generalize hMe : (List.range n).map (tickL L) = M at *
  have HME := Lib.hid hMe
  clear hMe
  obtain ⟨At, ct, rfl, htc1, htc2⟩ := SlR.form hR
  unfold maxLen at htc2
  have HR := Lib.hid hR
  have HM := Lib.hid hTLen
  clear hR hTLen
  go_wp2_with (fail)
  go_loopw [5, 6, 8, 10, 15] (fun v5 v6 _ _ v15 wr => ∃ (k : Nat) (now : Int), k ≤ M.length ∧ v15 = .int .i64 k ∧ v6 = .int .i64 now ∧ Hid ((ranF (M.take k)).2 = now) ∧ OwnL encI wr W.heap.size 3 1 v5 (ranF (M.take k)).1 ∧ Ext W wr) (fun _ _ _ _ v15 _ => M.length - (intOf v15).toNat)
  case atStart => exact ⟨0, -1, Nat.zero_le _, rfl, rfl, Lib.hid rfl, OwnL.nil, Ext.refl W⟩
  case round =>
    obtain ⟨k, now, hk, rfl, rfl, hnow, hO, hXk⟩ := hrel
    by_cases hlt : k < M.length
    · obtain ⟨b, o, rfl, r, hr, hEv⟩ := SlR.at HR.out hlt
      rw [Nat.mul_one] at hr
      have hr0 := hXk.cell hr
      obtain ⟨Ar, cr, rfl, hrc1, hrc2⟩ := hEv.form
      unfold maxLen at hrc2
      have HEV := Lib.hid hEv
      have hsn := ranF_snoc (M.take k) M[k]
      rw [← List.take_succ_eq_append_getElem hlt, hnow.out] at hsn
      have hln := ranF_len (M.take k)
      have hl2 : (ranF (M.take k)).1.length ≤ 1000 := by rw [hln, List.length_take]; have := HM.out; omega
      have HSN := Lib.hid hsn
      have HLN := Lib.hid hl2
      clear hr hEv hsn hln hl2
      generalize M[k] = x at *
      generalize (ranF (M.take k)).1 = out at *
      obtain ⟨Ao, co, rfl, _, _⟩ := OwnL.form hO
      have HO := Lib.hid hO
      clear hO
      go_wp2_with (fail)
      go_loopw [6, 10, 21] (fun v6 _ v21 w2 => ∃ (j : Nat) (n2 : Int), j ≤ x.length ∧ v21 = .int .i64 j ∧ v6 = .int .i64 n2 ∧ Hid (ranN now (x.take j) = n2) ∧ Ext wr w2) (fun _ _ v21 _ => x.length - (intOf v21).toNat)
      case atStart => exact ⟨0, now, Nat.zero_le _, rfl, rfl, Lib.hid rfl, Ext.refl wr⟩
      case round =>
        obtain ⟨j, n2, hj, rfl, rfl, hn2, hX2⟩ := hrel
        by_cases hjlt : j < x.length
        · obtain ⟨b3, o3, rfl, hxj⟩ := HEV.out.at hjlt
          obtain ⟨y0, y1, y2, y3⟩ := hxj wr (hXk.trans hX2)
          rw [evAt_in hjlt] at y0 y1 y2 y3
          have hs2 : ranN now (x.take (j + 1)) = runsA n2 x[j] := by
            rw [List.take_succ_eq_append_getElem hjlt]
            unfold ranN at hn2 ⊢
            rw [List.foldl_append, hn2.out]; rfl
          have HS2 := Lib.hid hs2
          clear hs2 hxj
          generalize x[j] = e at *
          go_upto_region 9 with (fail)
          have hX5 := (Ext.refl wr).alloc (.cells #[.int .i64 e.tick, .int .i64 e.kind, .int .i64 e.task, .int .i64 e.n] 60)
          have hB5 := Blk.new wr #[.int .i64 e.tick, .int .i64 e.kind, .int .i64 e.task, .int .i64 e.n] 60
          generalize wr.alloc _ = W5 at hX5 hB5 ⊢
          generalize wr.heap.size = ge at hB5 ⊢
          have hce0 := hB5.cell
          go_wp2_with (fail)
          refine (runs_au n2 e W5).mono ?_
          rintro _ w6 ⟨rfl, hX6⟩
          clear hce0
          go_wp2_with (fail)
          exact ⟨⟨j + 1, _, hjlt, rfl, rfl, HS2, hX2.trans (hX5.trans hX6)⟩, by simp [intOf]; omega⟩
        · have hje : j = x.length := by omega
          subst hje
          have hn3 := hn2.out
          rw [List.take_length] at hn3
          have HN3 := Lib.hid hn3
          have HO2 := Lib.hid (OwnL.below HO.out hX2.below)
          have hsz := (hXk.trans hX2).size
          clear hn3
          go_wp2_with (at_builtin; (refine wpList_push rfl _ _ 40 rfl W.heap.size 3 Try.underlying40 infoPI rfl (by decide) (by decide) encI out _ rfl (OwnL.alloc HO2.out _) n2 wr.heap.size #[.int .i64 n2] 3 rfl (Blk.new _ _ _) rfl rfl (by simp [encI, Value.oneCell']) ?_ ?_ ?_; (· have := HLN.out; omega); (· simp; omega); (intro v4 w4 hown4 hg4 hloc4 _)))
          have hX4 : Ext W w4 := ((hXk.trans hX2).alloc (.cells #[.int .i64 n2] 3)).grown hg4 (fun q hq => (OwnL.lt HO2.out q hq).1)
          obtain ⟨A4, c4, rfl⟩ := own_slice hown4
          rw [List.length_append, List.length_singleton] at hown4
          have hC := contains_ev (.slice Ar x.length cr) x 26 #[] endB w4 (HEV.out.ext hX4) callEnds (fun w' hx e _ => ends_au e w')
          have HC := Lib.hid hC
          have HOW := Lib.hid hown4
          clear hC hown4 hg4 hloc4
          go_wp2_with (fail)
          refine HC.out.mono ?_
          rintro _ w5 ⟨rfl, hX5⟩
          have hO5 := OwnL.below HOW.out hX5.below
          have hX45 := hX4.trans hX5
          have hsn := HSN.out
          rw [HN3.out] at hsn
          unfold ranE at hsn
          rw [HN3.out] at hsn
          cases hE : x.any endB with
          | true =>
            rw [hE, if_pos rfl] at hsn
            have HSN2 := Lib.hid hsn
            clear hsn
            go_wp2_with (fail)
            exact ⟨⟨k + 1, -1, hlt, rfl, rfl, by rw [HSN2.out]; exact Lib.hid rfl, by rw [HSN2.out]; exact hO5, hX45⟩, by simp [intOf]; omega⟩
          | false =>
            rw [hE, if_neg (by simp)] at hsn
            have HSN2 := Lib.hid hsn
            clear hsn
            go_wp2_with (fail)
            exact ⟨⟨k + 1, n2, hlt, rfl, rfl, by rw [HSN2.out]; exact Lib.hid rfl, by rw [HSN2.out]; exact hO5, hX45⟩, by simp [intOf]; omega⟩
    · have hke : k = M.length := by omega
      subst hke
      rw [List.take_length] at hO
      obtain ⟨Ao, co, rfl, _, _⟩ := OwnL.form hO
      have HO := Lib.hid hO
      clear hO
      go_wp2_with (fail)
      go_ret
      exact ⟨_, rfl, by rw [HME.out]; exact OwnL.lower HO.out hX.size, hX.trans hXk⟩
end Go.Proofs.Ytlaflbepidkmnaa
/- Au2 -/
namespace Go.Proofs.Ytlaflbepidkmnaa
open Go.RowKit
attribute [local go_sem] setCell_twice ByteArray.toList_eq str_list Ext.alloc Ext.drew
set_option linter.unusedSimpArgs false
set_option linter.unusedVariables false
set_option maxRecDepth 100000
set_option maxHeartbeats 1600000
attribute [local irreducible] Calls

theorem mapTyS : MapTy Try.prog 56 3 2 := ⟨fun _ => by kernel_rfl, Try.underlying56, Try.underlying3, Try.underlying2⟩
theorem mapTyL : MapTy Try.prog 55 3 3 := ⟨fun _ => by kernel_rfl, Try.underlying55, Try.underlying3, Try.underlying3⟩
/-- events as the run's are -/
def evIn (e : Ev) : Prop := 0 ≤ e.tick ∧ e.tick ≤ 1099511627776 ∧ 0 ≤ e.kind ∧ e.kind ≤ 10 ∧ -1 ≤ e.task ∧ e.task < 8
structure WatchR (w : World) (g bl bs n : Nat) (P : List Ev) : Prop where
  box : Blk w g #[.map (some bl), .map (some bs)] 58
  last : ∃ f, MapF Try.prog 3 3 w bl n f ∧ ∀ i, (f i).getD 0 = lastL P i
  since : MapF Try.prog 3 2 w bs n (sinceL P)
  ne : bl ≠ bs
theorem MapF.notBlk {P : Program} {k e : TypeId} {w : World} {b n g : Nat} {f : Int → Option Int} {cs : Array Value} {t : TypeId} (h : MapF P k e w b n f) (hB : Blk w g cs t) : g ≠ b := by
  obtain ⟨D, ⟨es, clock, hb, _⟩, _⟩ := h
  rintro rfl
  unfold Blk at hB
  rw [hb] at hB
  cases hB
section
variable {w w' : World} {g bl bs n : Nat} {P : List Ev}
theorem WatchR.ext (h : WatchR w g bl bs n P) (hx : Ext w w') : WatchR w' g bl bs n P := by
  obtain ⟨f, h1, h2⟩ := h.last
  exact ⟨h.box.ext hx, ⟨f, h1.ext hx, h2⟩, h.since.ext hx, h.ne⟩
end
theorem last_snoc0 {P : List Ev} {e : Ev} (h : e.kind = 2 ∨ e.kind = 3) (i : Int) : lastL (P ++ [e]) i = lastL P i := by
  rw [last_snoc, if_neg (by omega)]
theorem since_snoc0 {P : List Ev} {e : Ev} (h : e.kind = 2 ∨ e.kind = 3) : sinceL (P ++ [e]) = sinceL P := by
  funext i
  rw [since_snoc]
  split
  · rw [if_neg (by omega), if_neg (by omega)]
  · rfl
theorem last_snoc1 {P : List Ev} {e : Ev} (h : e.kind ≠ 2 ∧ e.kind ≠ 3) {f : Int → Option Int} (hf : ∀ i, (f i).getD 0 = lastL P i) (i : Int) : (upd f e.task (some e.kind) i).getD 0 = lastL (P ++ [e]) i := by
  rw [last_snoc]
  unfold upd
  by_cases e1 : i = e.task
  · rw [if_pos e1, if_pos ⟨e1.symm, h.1, h.2⟩]; rfl
  · rw [if_neg e1, if_neg (fun h => e1 h.1.symm), hf]
theorem since_snoc1 {P : List Ev} {e : Ev} (h : e.kind = 1) : sinceL (P ++ [e]) = upd (sinceL P) e.task (some e.tick) := by
  funext i
  rw [since_snoc]
  unfold upd
  by_cases e1 : e.task = i
  · rw [if_pos e1, if_pos h, if_pos e1.symm]
  · rw [if_neg e1, if_neg (fun h => e1 h.symm)]
theorem since_snoc8 {P : List Ev} {e : Ev} (h : e.kind = 8 ∨ e.kind = 9) : sinceL (P ++ [e]) = upd (sinceL P) e.task none := by
  funext i
  rw [since_snoc]
  unfold upd
  by_cases e1 : e.task = i
  · rw [if_pos e1, if_neg (by omega), if_pos h, if_pos e1.symm]
  · rw [if_neg e1, if_neg (fun h => e1 h.symm)]
theorem since_snocN {P : List Ev} {e : Ev} (h1 : e.kind ≠ 1) (h : e.kind ≠ 8 ∧ e.kind ≠ 9) : sinceL (P ++ [e]) = sinceL P := by
  funext i
  rw [since_snoc]
  split
  · simp only [h1, h.1, h.2, if_false, or_self]
  · rfl
theorem wf64 {x : Int} (h1 : -9223372036854775808 ≤ x) (h2 : x ≤ 9223372036854775807) : (Lit.int .i64 x).wf = true := by
  have e1 : IntKind.i64.min = -9223372036854775808 := rfl
  have e2 : IntKind.i64.max = 9223372036854775807 := rfl
  simp [Lit.wf, e1, e2]; omega
theorem sees_au (g bl bs n : Nat) (P : List Ev) (e : Ev) (w : World) (h : WatchR w g bl bs n P) (hn : n ≤ 1000000000) (he : evIn e) :
    Calls Try.prog 22 #[.pointer (some ⟨g, 0, none⟩), evA e] w fun r w' => r = .returned (.tuple #[]) ∧ WatchR w' g bl bs (n + 1) (P ++ [e]) ∧ Chg (fun q => q = bl ∨ q = bs) w w' := by
  have hX1 := (Ext.refl w).alloc (.cells #[.int .i64 e.tick, .int .i64 e.kind, .int .i64 e.task, .int .i64 e.n] 60)
  have hB1 := Blk.new w #[.int .i64 e.tick, .int .i64 e.kind, .int .i64 e.task, .int .i64 e.n] 60
  have hW1 := h.ext hX1
  have hC1 : Chg (fun q => q = bl ∨ q = bs) w _ := Chg.of_ext hX1
  obtain ⟨tick, kind, task, nn⟩ := e
  obtain ⟨a1, a2, a3, a4, a5, a6⟩ := he
  dsimp only at a1 a2 a3 a4 a5 a6 hX1 hB1 hW1 hC1
  have wt : (Lit.int .i64 tick).wf = true := wf64 (by omega) (by omega)
  have wk : (Lit.int .i64 kind).wf = true := wf64 (by omega) (by omega)
  have wa : (Lit.int .i64 task).wf = true := wf64 (by omega) (by omega)
  unfold evA
  dsimp only
  have hlow : w.heap.size < (w.alloc (.cells #[.int .i64 tick, .int .i64 kind, .int .i64 task, .int .i64 nn] 60)).heap.size := by simp
  have hgb : g ≠ w.heap.size := fun e => by have := h.box.lt; omega
  have hbl := (h.last.choose_spec.1).lt
  have hbs := h.since.lt
  have hne := h.ne
  clear h hX1
  go_enter Try.func22, Try.ntmps22
  go_upto_region 1 with (fail)
  generalize w.alloc _ = W1 at hW1 hC1 hB1 hlow ⊢
  generalize hgbe : w.heap.size = gb at hB1 hgb hbl hbs hlow ⊢
  have HW := Lib.hid hW1
  have HC := Lib.hid hC1
  have hc := hB1.cell
  have hcw := hW1.box.cell
  have hcb := hB1.under
  have hcwb := hW1.box.under
  have HB := Lib.hid hB1
  clear hW1 hC1 hB1
  cases h3 : (kind == 3) with
  | true =>
    have HK := Lib.hid (eq_of_beq h3)
    go_wp2_with (fail)
    refine bodyPost_ret (v := .tuple #[]) (results_none Try.results22 _ _ _) rfl ⟨rfl, ?_, HC.out⟩
    obtain ⟨f, h1, h2⟩ := HW.out.last
    exact ⟨HW.out.box, ⟨f, h1.mono (by omega), fun i => by rw [last_snoc0 (.inr HK.out)]; exact h2 i⟩, by rw [since_snoc0 (.inr HK.out)]; exact HW.out.since.mono (by omega), HW.out.ne⟩
  | false =>
  cases h2 : (kind == 2) with
  | true =>
    have HK := Lib.hid (eq_of_beq h2)
    go_wp2_with (fail)
    refine bodyPost_ret (v := .tuple #[]) (results_none Try.results22 _ _ _) rfl ⟨rfl, ?_, HC.out⟩
    obtain ⟨f, h1, h2⟩ := HW.out.last
    exact ⟨HW.out.box, ⟨f, h1.mono (by omega), fun i => by rw [last_snoc0 (.inl HK.out)]; exact h2 i⟩, by rw [since_snoc0 (.inl HK.out)]; exact HW.out.since.mono (by omega), HW.out.ne⟩
  | false =>
  have HK2 := Lib.hid (show kind ≠ 2 ∧ kind ≠ 3 from ⟨by simpa using h2, by simpa using h3⟩)
  have hns : g ≠ bs := MapF.notBlk HW.out.since HW.out.box
  have hnl : g ≠ bl := HW.out.last.elim fun f h => MapF.notBlk h.1 HW.out.box
  obtain ⟨f, hL, hfl⟩ := HW.out.last
  have HFL := Lib.hid hfl
  clear hfl
  cases h1 : (kind == 1) with
  | true =>
    have HK := Lib.hid (eq_of_beq h1)
    go_upto_region 4 with (fail)
    refine wp_region_text (n := 8) (S := Ext W1) (by kernel_rfl) (by kernel_rfl) (Ext.refl W1).drew (fun K hK => ?_)
    (repeat (first | (apply hO_and; (· rfl); (· rfl); (· rfl); (· rfl); simp only [Act.put, List.setIfInBounds_toArray, List.set_cons_zero, List.set_cons_succ]) | (apply hO_or; (· rfl); (· rfl); (· rfl); (· rfl); simp only [Act.put, List.setIfInBounds_toArray, List.set_cons_zero, List.set_cons_succ]) | (apply hO_off; (· rfl); (· rfl); simp only [Act.put, List.setIfInBounds_toArray, List.set_cons_zero, List.set_cons_succ]) | (apply hO_val; (· intro w hS; go_simp; with_reducible rfl); (· rfl); simp only [Act.put, List.setIfInBounds_toArray, List.set_cons_zero, List.set_cons_succ]) | (apply hO_call; (· rfl); (· intro w hS; go_simp; exact ⟨rfl, rfl⟩); (· intro w hS; fail); simp only [Act.put, List.setIfInBounds_toArray, List.set_cons_zero, List.set_cons_succ]) | (apply hO_if; (· rfl); (· rfl); (· intro hif w hS; go_simp; with_reducible rfl); simp only [Act.put, List.setIfInBounds_toArray, List.set_cons_zero, List.set_cons_succ]) | (apply hO_ifcall; (· rfl); (· rfl); (· intro hif w hS; go_simp; exact ⟨rfl, rfl⟩); (· intro hif w hS; fail); simp only [Act.put, List.setIfInBounds_toArray, List.set_cons_zero, List.set_cons_succ]))); refine hO_nil ?_
    refine hK _ ?_
    clear hK K
    intro w2 hx2
    simp only [List.drop_succ_cons, List.drop_zero]
    have hs2 := HW.out.since.ext hx2
    go_wp2_with (at_mapUpdate; refine wpF_store mapTyS rfl _ _ _ rfl rfl hs2 (by unfold maxLen; omega) task tick wa rfl wt rfl ?_; intro w3 hm3 hg3)
    have hBe3 := (HB.out.ext hx2).grown hg3 (fun e => by have := Option.some.inj e; omega)
    have hBw3 := (HW.out.box.ext hx2).grown hg3 (fun e => hns (Option.some.inj e).symm)
    have hL3 := MapF.grown (hL.ext hx2) hg3 (fun e => hne (Option.some.inj e))
    have hC3 := (HC.out.ext hx2).trans (Chg.of_grown (F := fun q => q = bl ∨ q = bs) hg3 (fun k e => .inr (Option.some.inj e).symm))
    have HS3 := Lib.hid (show MapF Try.prog 3 2 w3 bs (n + 1) (sinceL (P ++ [⟨tick, kind, task, nn⟩])) from by rw [since_snoc1 (e := ⟨tick, kind, task, nn⟩) HK.out]; exact hm3)
    have hc3 := hBe3.cell
    have hc3b := hBe3.under
    have hcw3 := hBw3.cell
    have hcw3b := hBw3.under
    have HBw3 := Lib.hid hBw3
    have HC3 := Lib.hid hC3
    clear hc hcb hcw hcwb hs2 hBe3 hBw3 hC3
    go_upto_region 7 with (fail)
    refine wp_region_text (n := 8) (S := Ext w3) (by kernel_rfl) (by kernel_rfl) (Ext.refl w3).drew (fun K hK => ?_)
    (repeat (first | (apply hO_and; (· rfl); (· rfl); (· rfl); (· rfl); simp only [Act.put, List.setIfInBounds_toArray, List.set_cons_zero, List.set_cons_succ]) | (apply hO_or; (· rfl); (· rfl); (· rfl); (· rfl); simp only [Act.put, List.setIfInBounds_toArray, List.set_cons_zero, List.set_cons_succ]) | (apply hO_off; (· rfl); (· rfl); simp only [Act.put, List.setIfInBounds_toArray, List.set_cons_zero, List.set_cons_succ]) | (apply hO_val; (· intro w hS; go_simp; with_reducible rfl); (· rfl); simp only [Act.put, List.setIfInBounds_toArray, List.set_cons_zero, List.set_cons_succ]) | (apply hO_call; (· rfl); (· intro w hS; go_simp; exact ⟨rfl, rfl⟩); (· intro w hS; fail); simp only [Act.put, List.setIfInBounds_toArray, List.set_cons_zero, List.set_cons_succ]) | (apply hO_if; (· rfl); (· rfl); (· intro hif w hS; go_simp; with_reducible rfl); simp only [Act.put, List.setIfInBounds_toArray, List.set_cons_zero, List.set_cons_succ]) | (apply hO_ifcall; (· rfl); (· rfl); (· intro hif w hS; go_simp; exact ⟨rfl, rfl⟩); (· intro hif w hS; fail); simp only [Act.put, List.setIfInBounds_toArray, List.set_cons_zero, List.set_cons_succ]))); refine hO_nil ?_
    refine hK _ ?_
    clear hK K
    intro w4 hx4
    simp only [List.drop_succ_cons, List.drop_zero]
    have hl4 := hL3.ext hx4
    go_wp2_with (at_mapUpdate; refine wpF_store mapTyL rfl _ _ _ rfl rfl hl4 (by unfold maxLen; omega) task kind wa rfl wk rfl ?_; intro w5 hm5 hg5)
    refine bodyPost_end (results_none Try.results22 _ _ _) rfl ⟨rfl, ⟨(HBw3.out.ext hx4).grown hg5 (fun e => hnl (Option.some.inj e).symm), ⟨_, hm5, fun i => last_snoc1 (e := ⟨tick, kind, task, nn⟩) HK2.out HFL.out i⟩, MapF.grown (HS3.out.ext hx4) hg5 (fun e => hne (Option.some.inj e).symm), hne⟩, (HC3.out.ext hx4).trans (Chg.of_grown hg5 (fun k e => .inl (Option.some.inj e).symm))⟩
  | false =>
    have HKN := Lib.hid (show kind ≠ 1 by simpa using h1)
    have hEnds := ends_au ⟨tick, kind, task, nn⟩ W1
    go_upto_region 5 with (fail)
    go_wp2_with (fail)
    refine hEnds.mono ?_
    rintro _ w9 ⟨rfl, hX2⟩
    have hc9 := (HB.out.ext hX2).cell
    have hc9b := (HB.out.ext hX2).under
    have hcw9 := (HW.out.box.ext hX2).cell
    have hcw9b := (HW.out.box.ext hX2).under
    cases hE : endB ⟨tick, kind, task, nn⟩ with
    | true =>
      have HK8 := Lib.hid (show kind = 8 ∨ kind = 9 by simpa [endB] using hE)
      go_upto_region 6 with (fail)
      refine wp_region_text (n := 6) (S := Ext w9) (by kernel_rfl) (by kernel_rfl) (Ext.refl w9).drew (fun K hK => ?_)
      (repeat (first | (apply hO_and; (· rfl); (· rfl); (· rfl); (· rfl); simp only [Act.put, List.setIfInBounds_toArray, List.set_cons_zero, List.set_cons_succ]) | (apply hO_or; (· rfl); (· rfl); (· rfl); (· rfl); simp only [Act.put, List.setIfInBounds_toArray, List.set_cons_zero, List.set_cons_succ]) | (apply hO_off; (· rfl); (· rfl); simp only [Act.put, List.setIfInBounds_toArray, List.set_cons_zero, List.set_cons_succ]) | (apply hO_val; (· intro w hS; go_simp; with_reducible rfl); (· rfl); simp only [Act.put, List.setIfInBounds_toArray, List.set_cons_zero, List.set_cons_succ]) | (apply hO_call; (· rfl); (· intro w hS; go_simp; exact ⟨rfl, rfl⟩); (· intro w hS; fail); simp only [Act.put, List.setIfInBounds_toArray, List.set_cons_zero, List.set_cons_succ]) | (apply hO_if; (· rfl); (· rfl); (· intro hif w hS; go_simp; with_reducible rfl); simp only [Act.put, List.setIfInBounds_toArray, List.set_cons_zero, List.set_cons_succ]) | (apply hO_ifcall; (· rfl); (· rfl); (· intro hif w hS; go_simp; exact ⟨rfl, rfl⟩); (· intro hif w hS; fail); simp only [Act.put, List.setIfInBounds_toArray, List.set_cons_zero, List.set_cons_succ]))); refine hO_nil ?_
      refine hK _ ?_
      clear hK K
      intro w2 hx2
      simp only [List.drop_succ_cons, List.drop_zero]
      have hs2 := HW.out.since.ext (hX2.trans hx2)
      go_wp2_with (at_delete; refine wpF_del mapTyS rfl _ _ rfl rfl hs2 task wa rfl ?_; intro w3 hm3 hg3)
      have hBe3 := (HB.out.ext (hX2.trans hx2)).grown hg3 (fun e => by have := Option.some.inj e; omega)
      have hBw3 := (HW.out.box.ext (hX2.trans hx2)).grown hg3 (fun e => hns (Option.some.inj e).symm)
      have hL3 := MapF.grown (hL.ext (hX2.trans hx2)) hg3 (fun e => hne (Option.some.inj e))
      have hC3 := (HC.out.ext (hX2.trans hx2)).trans (Chg.of_grown (F := fun q => q = bl ∨ q = bs) hg3 (fun k e => .inr (Option.some.inj e).symm))
      have HS3 := Lib.hid (show MapF Try.prog 3 2 w3 bs (n + 1) (sinceL (P ++ [⟨tick, kind, task, nn⟩])) from by rw [since_snoc8 (e := ⟨tick, kind, task, nn⟩) HK8.out]; exact hm3.mono (by omega))
      have hc3 := hBe3.cell
      have hc3b := hBe3.under
      have hcw3 := hBw3.cell
      have hcw3b := hBw3.under
      have HBw3 := Lib.hid hBw3
      have HC3 := Lib.hid hC3
      clear hc hcb hcw hcwb hc9 hc9b hcw9 hcw9b hs2 hBe3 hBw3 hC3
      go_upto_region 7 with (fail)
      refine wp_region_text (n := 8) (S := Ext w3) (by kernel_rfl) (by kernel_rfl) (Ext.refl w3).drew (fun K hK => ?_)
      (repeat (first | (apply hO_and; (· rfl); (· rfl); (· rfl); (· rfl); simp only [Act.put, List.setIfInBounds_toArray, List.set_cons_zero, List.set_cons_succ]) | (apply hO_or; (· rfl); (· rfl); (· rfl); (· rfl); simp only [Act.put, List.setIfInBounds_toArray, List.set_cons_zero, List.set_cons_succ]) | (apply hO_off; (· rfl); (· rfl); simp only [Act.put, List.setIfInBounds_toArray, List.set_cons_zero, List.set_cons_succ]) | (apply hO_val; (· intro w hS; go_simp; with_reducible rfl); (· rfl); simp only [Act.put, List.setIfInBounds_toArray, List.set_cons_zero, List.set_cons_succ]) | (apply hO_call; (· rfl); (· intro w hS; go_simp; exact ⟨rfl, rfl⟩); (· intro w hS; fail); simp only [Act.put, List.setIfInBounds_toArray, List.set_cons_zero, List.set_cons_succ]) | (apply hO_if; (· rfl); (· rfl); (· intro hif w hS; go_simp; with_reducible rfl); simp only [Act.put, List.setIfInBounds_toArray, List.set_cons_zero, List.set_cons_succ]) | (apply hO_ifcall; (· rfl); (· rfl); (· intro hif w hS; go_simp; exact ⟨rfl, rfl⟩); (· intro hif w hS; fail); simp only [Act.put, List.setIfInBounds_toArray, List.set_cons_zero, List.set_cons_succ]))); refine hO_nil ?_
      refine hK _ ?_
      clear hK K
      intro w4 hx4
      simp only [List.drop_succ_cons, List.drop_zero]
      have hl4 := hL3.ext hx4
      go_wp2_with (at_mapUpdate; refine wpF_store mapTyL rfl _ _ _ rfl rfl hl4 (by unfold maxLen; omega) task kind wa rfl wk rfl ?_; intro w5 hm5 hg5)
      refine bodyPost_end (results_none Try.results22 _ _ _) rfl ⟨rfl, ⟨(HBw3.out.ext hx4).grown hg5 (fun e => hnl (Option.some.inj e).symm), ⟨_, hm5, fun i => last_snoc1 (e := ⟨tick, kind, task, nn⟩) HK2.out HFL.out i⟩, MapF.grown (HS3.out.ext hx4) hg5 (fun e => hne (Option.some.inj e).symm), hne⟩, (HC3.out.ext hx4).trans (Chg.of_grown hg5 (fun k e => .inl (Option.some.inj e).symm))⟩
    | false =>
      have HK8 := Lib.hid (show kind ≠ 8 ∧ kind ≠ 9 by simpa [endB] using hE)
      have HC3' := HC.out.ext hX2
      have hBe3 := HB.out.ext hX2
      have hBw9 := HW.out.box.ext hX2
      have hL3 := hL.ext hX2
      have hC3 := HC.out.ext hX2
      have HS3 := Lib.hid (show MapF Try.prog 3 2 w9 bs (n + 1) (sinceL (P ++ [⟨tick, kind, task, nn⟩])) from by rw [since_snocN (e := ⟨tick, kind, task, nn⟩) HKN.out HK8.out]; exact (HW.out.since.ext hX2).mono (by omega))
      have hc3 := hBe3.cell
      have hc3b := hBe3.under
      have hcw9 := hBw9.cell
      have hcw9b := hBw9.under
      have HBw9 := Lib.hid hBw9
      have HC3 := Lib.hid hC3
      clear hc hcb hcw hcwb hc9 hc9b hcw9 hcw9b HC3' hBe3 hBw9 hC3
      go_upto_region 7 with (fail)
      refine wp_region_text (n := 8) (S := Ext w9) (by kernel_rfl) (by kernel_rfl) (Ext.refl w9).drew (fun K hK => ?_)
      (repeat (first | (apply hO_and; (· rfl); (· rfl); (· rfl); (· rfl); simp only [Act.put, List.setIfInBounds_toArray, List.set_cons_zero, List.set_cons_succ]) | (apply hO_or; (· rfl); (· rfl); (· rfl); (· rfl); simp only [Act.put, List.setIfInBounds_toArray, List.set_cons_zero, List.set_cons_succ]) | (apply hO_off; (· rfl); (· rfl); simp only [Act.put, List.setIfInBounds_toArray, List.set_cons_zero, List.set_cons_succ]) | (apply hO_val; (· intro w hS; go_simp; with_reducible rfl); (· rfl); simp only [Act.put, List.setIfInBounds_toArray, List.set_cons_zero, List.set_cons_succ]) | (apply hO_call; (· rfl); (· intro w hS; go_simp; exact ⟨rfl, rfl⟩); (· intro w hS; fail); simp only [Act.put, List.setIfInBounds_toArray, List.set_cons_zero, List.set_cons_succ]) | (apply hO_if; (· rfl); (· rfl); (· intro hif w hS; go_simp; with_reducible rfl); simp only [Act.put, List.setIfInBounds_toArray, List.set_cons_zero, List.set_cons_succ]) | (apply hO_ifcall; (· rfl); (· rfl); (· intro hif w hS; go_simp; exact ⟨rfl, rfl⟩); (· intro hif w hS; fail); simp only [Act.put, List.setIfInBounds_toArray, List.set_cons_zero, List.set_cons_succ]))); refine hO_nil ?_
      refine hK _ ?_
      clear hK K
      intro w4 hx4
      simp only [List.drop_succ_cons, List.drop_zero]
      have hl4 := hL3.ext hx4
      go_wp2_with (at_mapUpdate; refine wpF_store mapTyL rfl _ _ _ rfl rfl hl4 (by unfold maxLen; omega) task kind wa rfl wk rfl ?_; intro w5 hm5 hg5)
      refine bodyPost_end (results_none Try.results22 _ _ _) rfl ⟨rfl, ⟨(HBw9.out.ext hx4).grown hg5 (fun e => hnl (Option.some.inj e).symm), ⟨_, hm5, fun i => last_snoc1 (e := ⟨tick, kind, task, nn⟩) HK2.out HFL.out i⟩, MapF.grown (HS3.out.ext hx4) hg5 (fun e => hne (Option.some.inj e).symm), hne⟩, (HC3.out.ext hx4).trans (Chg.of_grown hg5 (fun k e => .inl (Option.some.inj e).symm))⟩
end Go.Proofs.Ytlaflbepidkmnaa
