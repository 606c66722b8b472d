/- Lemmas: Operations whose guard has not come up; append onto a row of the call's own: one element; a row that came in; Rows of numbers, blocks, worlds that have grown; What a call may have changed: the blocks of F, and new ones; A block that is a row of structs; Tsk1. -/
import Derived.Test.YtlaflbepidkmnaaProg
import Derived.Test.YtlaflbepidkmnaaZd1
import Derived.WalkKit
import Derived.Maps.AppendAt
import Derived.Deep.AppendLies
import Derived.OwnWalk
import Derived.Tactics
import Derived.Deep.DeepMust
import Derived.BigQuiet
import Derived.Deep.QuietTactic
import Derived.RegionCalls
import Derived.Deep.RegionWith
/- HeldN -/
namespace Go.Proofs.Ytlaflbepidkmnaa
open Go.RowKit
section
variable {P : Program} {ops : Array Oper} {S : World → Prop} {K : Act → Prop} {o : Oper} {l : List Oper} {a : Act} {g : Nat} {T : List Nat} {j : Nat}
theorem hO_un {want : Bool} (hg : o.guard = some (g, want)) (hy : yielded ops a.tmps g = none) (h : hO P ops S K l (a.put o.dst undef)) : hO P ops S K (o :: l) a :=
  .inr ⟨by simp [Region.wanted, hg, hy], h⟩
theorem hX_un {want : Bool} (hT : T.contains j = false) (hg : o.guard = some (g, want)) (hy : yielded ops a.tmps g = none) (h : hX P ops S T K (j + 1) l (a.put o.dst undef)) : hX P ops S T K j (o :: l) a :=
  hX_of hT (.inr ⟨by simp [Region.wanted, hg, hy], h⟩)
end
end Go.Proofs.Ytlaflbepidkmnaa
/- Regions that draw their order, whose last operation may change what the others read. -/
namespace Go.Proofs.Ytlaflbepidkmnaa
open Go.RowKit
section
variable {P : Program} {ops : Array Oper} {Q : Exit → Act → World → Prop} {S : World → Prop} {R : Act → World → Prop} {z : Nat}

/-- z is one of T; all others must come ahead of it -/
def zOk (ops : Array Oper) (T : List Nat) (z : Nat) : Bool := T.contains z && decide (z < ops.size) && (List.range ops.size).all fun i => i == z || ((clo ops ops.size).getD z []).contains i
theorem z_in {T : List Nat} (h : zOk ops T z = true) : T.contains z = true := by
  unfold zOk at h
  simp only [Bool.and_eq_true] at h
  exact h.1.1
theorem z_clo {T : List Nat} (h : zOk ops T z = true) {listed : Array Bool} (hc : Closed ops listed) (hl : listed.getD z false = true) {i : Nat} (hi : i < ops.size) (hne : i ≠ z) : listed.getD i false = true := by
  unfold zOk at h
  simp only [Bool.and_eq_true, List.all_eq_true, List.mem_range, decide_eq_true_eq] at h
  have h2 := h.2 i hi
  rw [Bool.or_eq_true, beq_iff_eq] at h2
  rcases h2 with h2 | h2
  · exact absurd h2 hne
  · exact clo_closed hc ops.size z h.1.2 (fun o ho e he hb => hc z o ho hl e he hb) i (by simpa using h2)
/-- the others, in whatever order, each in a world that may have grown -/
def wpZ (P : Program) (ops : Array Oper) (z : Nat) (S : World → Prop) (R : Act → World → Prop) : Nat → Array Bool → Act → World → Prop
  | 0, listed, a, w => Region.ready .any ops listed = [] ∧ ∀ w', Ext w w' → R a w'
  | f + 1, listed, a, w => (Region.ready .any ops listed = [] → ∀ w', Ext w w' → R a w') ∧
      ∀ i ∈ Region.ready .any ops listed, ∀ w', Ext w w' → wpOp P ops qNone i (fun a' w'' => (i = z ∨ S w'') ∧ wpZ P ops z S R f (listed.setIfInBounds i true) a' w'') a w'
theorem wpZ_ext : ∀ {f : Nat} {listed : Array Bool} {a : Act} {w w' : World}, wpZ P ops z S R f listed a w → Ext w w' → wpZ P ops z S R f listed a w'
  | 0, _, _, _, _, h, hx => ⟨h.1, fun w2 h2 => h.2 w2 (hx.trans h2)⟩
  | _ + 1, _, _, _, _, h, hx => ⟨fun h0 w2 h2 => h.1 h0 w2 (hx.trans h2), fun i hi w2 h2 => h.2 i hi w2 (hx.trans h2)⟩
theorem wpZ_one {i : Nat} {o : Oper} {f : Nat} {listed : Array Bool} {a : Act} {w : World} (hr : Region.ready .any ops listed = [i]) (ho : ops[i]? = some o) (hg : o.guard = none)
    (h : ∀ w', Ext w w' → ∀ K : Act → World → Prop, (∀ a' w'', S w'' → wpZ P ops z S R f (listed.setIfInBounds i true) a' w'' → K a' w'') → o.wp P a w' K qNone) : wpZ P ops z S R (f + 1) listed a w := by
  refine ⟨fun h0 => (by rw [h0] at hr; cases hr), fun j hj w' hx => ?_⟩
  rw [hr] at hj
  obtain rfl : j = i := by simpa using hj
  unfold wpOp
  simp only [ho]
  rw [show Region.wanted o (yielded ops a.tmps) = true by simp [Region.wanted, hg], if_pos rfl]
  exact .inl (h w' hx _ fun a' w'' he hk => ⟨.inr he, hk⟩)
theorem wpZ_want {i : Nat} {o : Oper} {f : Nat} {listed : Array Bool} {a : Act} {w : World} (hr : Region.ready .any ops listed = [i]) (ho : ops[i]? = some o) (hw : Region.wanted o (yielded ops a.tmps) = true)
    (h : ∀ w', Ext w w' → ∀ K : Act → World → Prop, (∀ a' w'', S w'' → wpZ P ops z S R f (listed.setIfInBounds i true) a' w'' → K a' w'') → o.wp P a w' K qNone) : wpZ P ops z S R (f + 1) listed a w := by
  refine ⟨fun h0 => (by rw [h0] at hr; cases hr), fun j hj w' hx => ?_⟩
  rw [hr] at hj
  obtain rfl : j = i := by simpa using hj
  unfold wpOp
  simp only [ho]
  rw [hw, if_pos rfl]
  exact .inl (h w' hx _ fun a' w'' he hk => ⟨.inr he, hk⟩)
theorem wpZ_two {i j : Nat} {oi oj : Oper} {f : Nat} {listed : Array Bool} {a : Act} {w : World} (hr : Region.ready .any ops listed = [i, j]) (hi : ops[i]? = some oi) (hj : ops[j]? = some oj) (hgi : oi.guard = none) (hgj : oj.guard = none)
    (h1 : ∀ w', Ext w w' → ∀ K : Act → World → Prop, (∀ a' w'', S w'' → wpZ P ops z S R f (listed.setIfInBounds i true) a' w'' → K a' w'') → oi.wp P a w' K qNone)
    (h2 : ∀ w', Ext w w' → ∀ K : Act → World → Prop, (∀ a' w'', S w'' → wpZ P ops z S R f (listed.setIfInBounds j true) a' w'' → K a' w'') → oj.wp P a w' K qNone) : wpZ P ops z S R (f + 1) listed a w := by
  refine ⟨fun h0 => (by rw [h0] at hr; cases hr), fun k hk w' hx => ?_⟩
  rw [hr] at hk
  unfold wpOp
  rcases List.mem_cons.1 hk with rfl | hk
  · simp only [hi]
    rw [show Region.wanted oi (yielded ops a.tmps) = true by simp [Region.wanted, hgi], if_pos rfl]
    exact .inl (h1 w' hx _ fun a' w'' he hk => ⟨.inr he, hk⟩)
  · obtain rfl : k = j := by simpa using hk
    simp only [hj]
    rw [show Region.wanted oj (yielded ops a.tmps) = true by simp [Region.wanted, hgj], if_pos rfl]
    exact .inl (h2 w' hx _ fun a' w'' he hk => ⟨.inr he, hk⟩)
theorem wpZ_done {listed : Array Bool} {a : Act} {w : World} (hr : Region.ready .any ops listed = []) (h : ∀ w', Ext w w' → R a w') : ∀ f, wpZ P ops z S R f listed a w
  | 0 => ⟨hr, h⟩
  | _ + 1 => ⟨fun _ => h, by rw [hr]; simp⟩

theorem wpZ_last {o : Oper} {f : Nat} {listed : Array Bool} {a : Act} {w : World} (hr : Region.ready .any ops listed = [z]) (ho : ops[z]? = some o) (hw : Region.wanted o (yielded ops a.tmps) = true)
    (h : ∀ w', Ext w w' → ∀ K : Act → World → Prop, (∀ a' w'', wpZ P ops z S R f (listed.setIfInBounds z true) a' w'' → K a' w'') → o.wp P a w' K qNone) : wpZ P ops z S R (f + 1) listed a w := by
  refine ⟨fun h0 => (by rw [h0] at hr; cases hr), fun j hj w' hx => ?_⟩
  rw [hr] at hj
  obtain rfl : j = z := by simpa using hj
  unfold wpOp
  simp only [ho]
  rw [hw, if_pos rfl]
  exact .inl (h w' hx _ fun a' w'' hk => ⟨by first | exact .inl rfl | exact .inl trivial, hk⟩)
variable {v : Nat → Value} {a0 : Act}
theorem mixZ_any {T : List Nat} (hSx : ∀ w w', S w → Ext w w' → S w') (hok : mixOk ops T = true) (hz : zOk ops T z = true) (H : ∀ j o, ops[j]? = some o → T.contains j = false → GoodX P ops S T v a0 j o) (hR : ∀ a w, R a w → Q .normal a w) :
    ∀ (fuel : Nat) (listed : Array Bool) (w : World) (u : Nat → Value) (f : Nat) (lx : Array Bool) (ds : List Deferred), listed.size = ops.size → lx.size = ops.size → Closed ops listed → listed.toList.count false ≤ fuel →
      (∀ i, T.contains i = false → u i = v i) → (∀ i, i < ops.size → lx.getD i false = (listed.getD i false || !T.contains i)) → (listed.getD z false = true ∨ S w) →
      wpZ P ops z S R f lx (stP ops u ⟨a0.tmps, ds⟩ (fun i => listed.getD i false || !T.contains i) ops.size) w → wpAny P .any ops Q fuel listed (stP ops u ⟨a0.tmps, ds⟩ (fun i => listed.getD i false) ops.size) w := by
  have hd := mix_dst hok
  have hTz := z_in hz
  intro fuel
  induction fuel with
  | zero =>
    intro listed w u f lx ds hsz hlx hc hf hu hl hE hX
    have hall : ∀ i, i < ops.size → listed.getD i false = true := fun i hi => by
      have h0 : List.count false listed.toList = 0 := by omega
      rw [List.count_eq_zero] at h0
      have hi' : i < listed.size := by omega
      cases hx : listed.getD i false with
      | true => rfl
      | false =>
        exfalso
        apply h0
        have : listed[i] = false := by simpa [hi'] using hx
        rw [← this]
        exact Array.mem_toList_iff.2 (Array.getElem_mem hi')
    have nil : ∀ l : Array Bool, l.size = ops.size → (∀ i, i < ops.size → l.getD i false = true) → Region.ready .any ops l = [] := fun l hs hall => by
      refine List.eq_nil_iff_forall_not_mem.2 fun i hi => ?_
      obtain ⟨h0, o, ho, _⟩ := mem_ready.1 hi
      have hlt := (Array.getElem?_eq_some_iff.1 ho).1
      rw [listed_at hs hlt, hall i hlt] at h0
      cases h0
    have e : stP ops u ⟨a0.tmps, ds⟩ (fun i => listed.getD i false || !T.contains i) ops.size = stP ops u ⟨a0.tmps, ds⟩ (fun i => listed.getD i false) ops.size :=
      stP_congr _ (fun i hi => by rw [hall i hi]; rfl) (fun i _ _ => rfl)
    rw [e] at hX
    have hx := nil lx hlx (fun i hi => by rw [hl i hi, hall i hi]; rfl)
    refine ⟨nil listed hsz hall, hR _ _ ?_⟩
    cases f with
    | zero => exact hX.2 w (Ext.refl w)
    | succ f => exact hX.1 hx w (Ext.refl w)
  | succ fuel ih =>
    intro listed w u f lx ds hsz hlx hc hf hu hl hE hX
    refine ⟨fun h0 => ?_, fun i hi => ?_⟩
    · -- all have come up
      have hall : ∀ i, i < ops.size → listed.getD i false = true := by
        have : ∀ m i, i < m → i < ops.size → listed.getD i false = true := by
          intro m
          induction m with
          | zero => intro i h; omega
          | succ m ihm =>
            intro i him hlt
            cases hx : listed.getD i false with
            | true => rfl
            | false =>
              exfalso
              have hin : i ∈ Region.ready .any ops listed := mem_ready.2 ⟨by rw [listed_at hsz hlt]; exact hx, ops[i], by simp [hlt], fun e he hb => by
                have := mix_edge hok (j := i) (o := ops[i]) (by simp [hlt]) he hb
                exact ihm e.on (by omega) (by omega)⟩
              rw [h0] at hin
              cases hin
        exact fun i hi => this (i + 1) i (by omega) hi
      have e : stP ops u ⟨a0.tmps, ds⟩ (fun i => listed.getD i false || !T.contains i) ops.size = stP ops u ⟨a0.tmps, ds⟩ (fun i => listed.getD i false) ops.size :=
        stP_congr _ (fun i hi => by rw [hall i hi]; rfl) (fun i _ _ => rfl)
      rw [e] at hX
      have hx : Region.ready .any ops lx = [] := by
        refine List.eq_nil_iff_forall_not_mem.2 fun i hi => ?_
        obtain ⟨h0, o, ho, _⟩ := mem_ready.1 hi
        have hlt := (Array.getElem?_eq_some_iff.1 ho).1
        rw [listed_at hlx hlt, hl i hlt, hall i hlt] at h0
        cases h0
      cases f with
      | zero => exact hR _ _ (hX.2 w (Ext.refl w))
      | succ f => exact hR _ _ (hX.1 hx w (Ext.refl w))
    · obtain ⟨h0, o, ho, hafter⟩ := mem_ready.1 hi
      have hlt := (Array.getElem?_eq_some_iff.1 ho).1
      have h0' : listed.getD i false = false := by rw [← listed_at hsz hlt]; exact h0
      have hset : ∀ (l : Array Bool), l.size = ops.size → ∀ j, (l.setIfInBounds i true).getD j false = (l.getD j false || j == i) := fun l hs j => by
        by_cases hij : i = j
        · subst hij; simp [hs, hlt]
        · rw [getD_set_ne false hij]
          have : (j == i) = false := by simpa using fun e => hij e.symm
          rw [this, Bool.or_false]
      have hcount : (listed.setIfInBounds i true).toList.count false ≤ fuel := by
        have hi' : i < listed.toList.length := by simpa [hsz] using hlt
        have hfalse : listed.toList[i] = false := by
          have hi'' : i < listed.size := by omega
          simpa [hi''] using h0
        rw [Array.toList_setIfInBounds, List.count_set hi']
        simp only [hfalse]
        simp
        have : 0 < listed.toList.count false := List.count_pos_iff.2 (by rw [← hfalse]; exact List.getElem_mem hi')
        rw [← Array.count_toList]
        omega
      -- what it looks at is there
      have hlook : ∀ t ∈ o.looksAt ops, ∀ j, dstOf ops j = some t → (j < i ∧ listed.getD j false = true ∧ (T.contains j = true → T.contains i = true)) ∨ (T.contains j = true ∧ listed.getD j false = false) := fun t ht j hj => by
        rcases mix_look hok ho ht hj with ⟨h1, ⟨e, he, hb, rfl⟩, h3⟩ | ⟨h1, h2, x, hx, e, he, hb, hon⟩
        · exact .inl ⟨h1, hafter e he hb, h3⟩
        · refine .inr ⟨h1, ?_⟩
          cases hlj : listed.getD j false with
          | false => rfl
          | true =>
            have := hc j x hx hlj e he hb
            rw [hon, h0'] at this
            cases this
      cases hT : T.contains i with
      | false =>
        have hsame : ∀ t ∈ o.looksAt ops, (stP ops u ⟨a0.tmps, ds⟩ (fun i => listed.getD i false) ops.size).tmps[t]? = (stP ops v a0 (fun i => !T.contains i) i).tmps[t]? := fun t ht => by
          by_cases hx : ∃ j, dstOf ops j = some t
          · obtain ⟨j, hj⟩ := hx
            rcases hlook t ht j hj with ⟨h1, h2, h3⟩ | ⟨h1, h2⟩
            · have hn : T.contains j = false := by
                cases h : T.contains j with
                | false => rfl
                | true => have := h3 h; rw [hT] at this; cases this
              rw [stP_some hj h2 (fun k hk => hd k j t hk hj) _ (dst_lt hj), stP_some hj (by rw [hn]; rfl) (fun k hk => hd k j t hk hj) _ h1, hu j hn]
            · rw [stP_none _ (fun k _ hl' hk => by
                rw [hd k j t hk hj, h2] at hl'; cases hl'), stP_none _ (fun k _ hl' hk => by
                rw [hd k j t hk hj, h1] at hl'; cases hl')]
          · rw [stP_none _ (fun j _ _ hj => hx ⟨j, hj⟩), stP_none _ (fun j _ _ hj => hx ⟨j, hj⟩)]
        have hev := same_eval (Region.noSelect_spec (mix_sel hok) i o · · ho) hsame
        have hwa := same_wanted (ops := ops) hsame
        have next : ∀ w', Ext w w' → wpAny P .any ops Q fuel (listed.setIfInBounds i true) ((stP ops u ⟨a0.tmps, ds⟩ (fun i => listed.getD i false) ops.size).put o.dst (v i)) w' := fun w' hx => by
          rw [← hu i hT, stP_put hd ho (L' := fun j => (listed.setIfInBounds i true).getD j false) (hset listed hsz)]
          refine ih _ w' u f lx ds (by simpa using hsz) hlx (closed_set hc hi) hcount hu (fun j hj => ?_) (by rcases hE with hlz | hE; (· exact .inl (by rw [hset listed hsz, hlz]; rfl)); (· exact .inr (hSx _ _ hE hx))) ?_
          · rw [hl j hj, hset listed hsz]
            by_cases hji : j = i
            · subst hji; rw [hT]; cases listed.getD j false <;> simp
            · rw [show (j == i) = false by simpa using hji, Bool.or_false]
          · have e : stP ops u ⟨a0.tmps, ds⟩ (fun j => (listed.setIfInBounds i true).getD j false || !T.contains j) ops.size = stP ops u ⟨a0.tmps, ds⟩ (fun i => listed.getD i false || !T.contains i) ops.size :=
              stP_congr _ (fun j hj => by
                rw [hset listed hsz]
                by_cases hji : j = i
                · subst hji; rw [hT]; cases listed.getD j false <;> simp
                · rw [show (j == i) = false by simpa using hji, Bool.or_false]) (fun i _ _ => rfl)
            rw [e]
            exact wpZ_ext hX hx
        unfold wpOp
        simp only [ho]
        rcases H i o ho hT with ⟨hw, hg⟩ | ⟨hw, hu'⟩
        · rw [hwa, hw, if_pos rfl]
          refine .inl ?_
          have hE : S w := by
            rcases hE with hlz | hE
            · exfalso
              have := z_clo hz hc hlz hlt (fun e => by subst e; rw [hT] at hTz; cases hTz)
              rw [h0'] at this; cases this
            · exact hE
          have hg := hg w hE
          unfold Gives at hg
          rw [← hev] at hg
          exact gives_wp (S := fun w' => Ext w w') (by unfold Gives; exact hg) next
        · rw [hwa, hw]
          simp only [Bool.false_eq_true, if_false]
          rw [← hu']
          exact next w (Ext.refl w)
      | true =>
        have hlxi : lx.getD i false = false := by rw [hl i hlt, h0', hT]; rfl
        have hin : i ∈ Region.ready .any ops lx := mem_ready.2 ⟨by rw [listed_at hlx hlt]; exact hlxi, o, ho, fun e he hb => by
          have h1 := hafter e he hb
          have := mix_edge hok ho he hb
          rw [hl _ (by omega), h1]; rfl⟩
        cases f with
        | zero => rw [hX.1] at hin; cases hin
        | succ f =>
          have hstep := hX.2 i hin w (Ext.refl w)
          have hsame : ∀ t ∈ o.looksAt ops, (stP ops u ⟨a0.tmps, ds⟩ (fun i => listed.getD i false) ops.size).tmps[t]? = (stP ops u ⟨a0.tmps, ds⟩ (fun i => listed.getD i false || !T.contains i) ops.size).tmps[t]? := fun t ht =>
            stP_look hd fun j hj => by
              rcases hlook t ht j hj with ⟨_, h2, _⟩ | ⟨h1, h2⟩
              · rw [h2]; rfl
              · rw [h1, h2]; rfl
          have hev := same_eval (Region.noSelect_spec (mix_sel hok) i o · · ho) hsame
          have hwa := same_wanted (ops := ops) hsame
          have next : ∀ (ds : List Deferred) (x : Value) (w' : World), (i = z ∨ S w') → wpZ P ops z S R f (lx.setIfInBounds i true) ((stP ops u ⟨a0.tmps, ds⟩ (fun i => listed.getD i false || !T.contains i) ops.size).put o.dst x) w' →
              wpAny P .any ops Q fuel (listed.setIfInBounds i true) ((stP ops u ⟨a0.tmps, ds⟩ (fun i => listed.getD i false) ops.size).put o.dst x) w' := fun ds x w' hE' hx => by
            have c1 : ∀ L : Nat → Bool, L i = false → stP ops u ⟨a0.tmps, ds⟩ L ops.size = stP ops (fun j => if j = i then x else u j) ⟨a0.tmps, ds⟩ L ops.size := fun L hL =>
              stP_congr _ (fun _ _ => rfl) (fun j _ hj => by
                by_cases hji : j = i
                · subst hji; rw [hL] at hj; cases hj
                · simp [hji])
            have p1 : ∀ L L' : Nat → Bool, L i = false → (∀ j, L' j = (L j || j == i)) → (stP ops u ⟨a0.tmps, ds⟩ L ops.size).put o.dst x = stP ops (fun j => if j = i then x else u j) ⟨a0.tmps, ds⟩ L' ops.size := fun L L' hL hL' => by
              rw [c1 L hL]
              have := stP_put (v := fun j => if j = i then x else u j) (a0 := ⟨a0.tmps, ds⟩) hd ho hL'
              simp only [if_true] at this
              exact this
            rw [p1 (fun i => listed.getD i false) (fun j => (listed.setIfInBounds i true).getD j false) h0' (hset listed hsz)]
            rw [p1 (fun i => listed.getD i false || !T.contains i) (fun j => (listed.setIfInBounds i true).getD j false || !T.contains j) (by rw [h0', hT]; rfl) (fun j => by rw [hset listed hsz]; cases listed.getD j false <;> cases T.contains j <;> cases (j == i) <;> rfl)] at hx
            refine ih _ w' _ f (lx.setIfInBounds i true) ds (by simpa using hsz) (by simpa using hlx) (closed_set hc hi) hcount (fun j hj => ?_) (fun j hj => ?_) (by rcases hE' with rfl | hE'; (· exact .inl (by rw [hset listed hsz]; simp)); (· exact .inr hE')) hx
            · have : j ≠ i := fun e => by subst e; rw [hT] at hj; cases hj
              simp [this, hu j hj]
            · rw [hset lx hlx, hset listed hsz, hl j hj]
              cases listed.getD j false <;> cases T.contains j <;> cases (j == i) <;> rfl
          unfold wpOp at hstep ⊢
          simp only [ho] at hstep ⊢
          rw [hwa]
          split
          · rename_i hw
            rw [if_pos hw] at hstep
            rcases hstep with hs | ⟨_, a, w, hq⟩
            · refine .inl ?_
              unfold Oper.wp at hs ⊢
              rw [hev]
              generalize (execOp (stP ops u ⟨a0.tmps, ds⟩ (fun i => listed.getD i false || !T.contains i) ops.size).eval o).run P w = r at hs
              cases r with
              | ok n w' =>
                cases n <;> simp only [Oper.upon] at hs ⊢
                case value x => exact next ds x w' hs.1 hs.2
                case skip => exact next ds undef w' hs.1 hs.2
                case defer d =>
                  have e : ∀ L, ({ stP ops u ⟨a0.tmps, ds⟩ L ops.size with defers := d :: (stP ops u ⟨a0.tmps, ds⟩ L ops.size).defers } : Act) = stP ops u ⟨a0.tmps, d :: ds⟩ L ops.size := fun L => by
                    rw [stP_defs a0.tmps (d :: ds) ds L, stP_defers]
                  rw [e] at hs ⊢
                  exact next (d :: ds) undef w' hs.1 hs.2
                case enter g args =>
                  refine Calls.mono hs fun e w'' he => ?_
                  cases e with
                  | returned x => exact next ds x w'' he.1 he.2
                  | panicked c => exact he.elim
                  | outgrown => obtain ⟨a, w, hq⟩ := he; exact hq.elim
                case row row args => exact Rows.mono hs fun x w'' he => next ds x w'' he.1 he.2
              | halt x w' => cases x <;> simp only [Oper.upon] at hs ⊢ <;> exact hs.elim
            · exact hq.elim
          · rename_i hw
            rw [if_neg hw] at hstep
            exact next ds undef w hstep.1 hstep.2
theorem wp_region_mixZ {id : Nat} {T : List Nat} {a : Act} {w W : World} (hSx : ∀ w w', S w → Ext w w' → S w') (hm : P.follows .mixedOrders = true) (hok : mixOk ops T = true) (hz : zOk ops T z = true) (hx : Ext W w.drew) (hS : S W) (hR : ∀ a w, R a w → Q .normal a w)
    (h : ∀ K : Act → Prop, (∀ a', wpZ P ops z S R T.length (lxOf ops.size T) a' W → K a') → hX P ops S T K 0 ops.toList a) : (Code.region id ops true).wp P Q a w := by
  obtain ⟨v, _, hK, hG⟩ := hX_spec (a0 := a) (v0 := fun _ => undef) ops.toList 0 a (by simp) rfl (h _ fun _ h => h)
  refine wp_region_any hm ?_
  have e0 : stP ops v ⟨a.tmps, a.defers⟩ (fun i => (Array.replicate ops.size false).getD i false) ops.size = a := by
    refine act_ext (fun t => stP_none _ (fun i hi hl => ?_)) (stP_defers _)
    simp [hi] at hl
  have := mixZ_any (P := P) (Q := Q) (S := S) (R := R) (v := v) (a0 := a) (T := T) hSx hok hz (fun j o ho hT => hG j o (Nat.zero_le _) ho hT) hR ops.size (Array.replicate ops.size false) { w with drawn := w.drawn + 1 } v T.length (lxOf ops.size T) a.defers
    (by simp) (by simp [lxOf]) ?_ (by simp) (fun _ _ => rfl) (fun i hi => by simp [lxOf, hi]) (.inr (hSx _ _ hS hx)) ?_
  · rw [e0] at this
    exact this
  · intro j o ho hl
    have hlt := (Array.getElem?_eq_some_iff.1 ho).1
    simp [hlt] at hl
  · have e : stP ops v ⟨a.tmps, a.defers⟩ (fun i => (Array.replicate ops.size false).getD i false || !T.contains i) ops.size = stP ops v a (fun i => !T.contains i) ops.size :=
      stP_congr _ (fun i hi => by simp [hi]) (fun _ _ _ => rfl)
    rw [e]
    exact wpZ_ext hK hx

theorem wp_region_mixZ5 {id : Nat} {T : List Nat} {a : Act} {w W : World} (G : Value → World → Prop) {F : Value → Value → Value → Value → Value → Act} (hSx : ∀ w w', S w → Ext w w' → S w') (hm : P.follows .mixedOrders = true) (hok : mixOk ops T = true) (hz : zOk ops T z = true) (hx : Ext W w.drew) (hS : S W)
    (h : ∀ K : Act → Prop, (∀ a', wpZ P ops z S (fun a w => ∃ u1 u2 u3 u4 v, a = F u1 u2 u3 u4 v ∧ G v w) T.length (lxOf ops.size T) a' W → K a') → hX P ops S T K 0 ops.toList a) (hR : ∀ u1 u2 u3 u4 v w, G v w → Q .normal (F u1 u2 u3 u4 v) w) : (Code.region id ops true).wp P Q a w :=
  wp_region_mixZ hSx hm hok hz hx hS (fun _ w ⟨u1, u2, u3, u4, v, e, h⟩ => e ▸ hR u1 u2 u3 u4 v w h) h
end
end Go.Proofs.Ytlaflbepidkmnaa
/- The rest of a mixed region, when what was to come ahead has come: walked in the order of the text, under a condition of its own. -/
namespace Go.Proofs.Ytlaflbepidkmnaa
open Go.RowKit
section
variable {P : Program} {ops : Array Oper} {S S' : World → Prop} {R : Act → World → Prop} {v : Nat → Value} {a0 : Act} {m : Nat}
theorem wpX_held (hok : heldOk ops ops.size = true) (hS' : ∀ w w', S' w → Ext w w' → S' w') (hSS : ∀ w, S' w → S w) (H : ∀ j, m ≤ j → ∀ o, ops[j]? = some o → GoodAt P ops S' v a0 j o)
    (K : ∀ w, S' w → R (stP ops v a0 (fun _ => true) ops.size) w) :
    ∀ (f : Nat) (listed : Array Bool) (w : World), listed.size = ops.size → Closed ops listed → listed.toList.count false ≤ f → (∀ j, j < m → listed.getD j false = true) → S' w →
      wpX P ops S R f listed (stP ops v a0 (fun i => listed.getD i false) ops.size) w := by
  have hd := ok_dst hok
  have fin : ∀ (listed : Array Bool) (w : World), (∀ i, i < ops.size → listed.getD i false = true) → S' w → ∀ w', Ext w w' → R (stP ops v a0 (fun i => listed.getD i false) ops.size) w' := fun listed w hall hS w' hx => by
    have e : stP ops v a0 (fun i => listed.getD i false) ops.size = stP ops v a0 (fun _ => true) ops.size :=
      stP_congr _ (fun i hi => hall i hi) (fun _ _ _ => rfl)
    rw [e]
    exact K w' (hS' _ _ hS hx)
  have nil : ∀ listed : Array Bool, listed.size = ops.size → Region.ready .any ops listed = [] → ∀ i, i < ops.size → listed.getD i false = true := fun listed hsz h0 => by
    have : ∀ m i, i < m → i < ops.size → listed.getD i false = true := by
      intro m
      induction m with
      | zero => intro i h; omega
      | succ m ihm =>
        intro i him hlt
        cases hx : listed.getD i false with
        | true => rfl
        | false =>
          exfalso
          have hin : i ∈ Region.ready .any ops listed := mem_ready.2 ⟨by rw [listed_at hsz hlt]; exact hx, ops[i], by simp [hlt], fun e he hb => by
            have := ok_edge hok (j := i) (o := ops[i]) (by simp [hlt]) he hb
            exact ihm e.on (by omega) (by omega)⟩
          rw [h0] at hin
          cases hin
    exact fun i hi => this (i + 1) i (by omega) hi
  intro f
  induction f with
  | zero =>
    intro listed w hsz hc hf hm hS
    have h0 : Region.ready .any ops listed = [] := by
      refine List.eq_nil_iff_forall_not_mem.2 fun i hi => ?_
      obtain ⟨h0, o, ho, _⟩ := mem_ready.1 hi
      have hlt := (Array.getElem?_eq_some_iff.1 ho).1
      have hc0 : List.count false listed.toList = 0 := by omega
      rw [List.count_eq_zero] at hc0
      have hi' : i < listed.size := by omega
      apply hc0
      have : listed[i] = false := by simpa [hi'] using h0
      rw [← this]
      exact Array.mem_toList_iff.2 (Array.getElem_mem hi')
    exact ⟨h0, fin listed w (nil listed hsz h0) hS⟩
  | succ f ih =>
    intro listed w hsz hc hf hm hS
    refine ⟨fun h0 => fin listed w (nil listed hsz h0) hS, fun i hi w' hx => ?_⟩
    obtain ⟨h0, o, ho, hafter⟩ := mem_ready.1 hi
    have hlt := (Array.getElem?_eq_some_iff.1 ho).1
    have h0' : listed.getD i false = false := by rw [← listed_at hsz hlt]; exact h0
    have hmi : m ≤ i := by
      rcases Nat.lt_or_ge i m with h | h
      · rw [hm i h] at h0'; cases h0'
      · exact h
    have hset : ∀ j, (listed.setIfInBounds i true).getD j false = (listed.getD j false || j == i) := fun j => by
      by_cases hij : i = j
      · subst hij; simp [hsz, hlt]
      · rw [getD_set_ne false hij]
        have : (j == i) = false := by simpa using fun e => hij e.symm
        rw [this, Bool.or_false]
    have hsame : ∀ t ∈ o.looksAt ops, (stP ops v a0 (fun i => listed.getD i false) ops.size).tmps[t]? = (stP ops v a0 (fun _ => true) i).tmps[t]? := fun t ht => by
      rw [stP_prefix hd i (by omega)]
      refine stP_look hd fun j hj => ?_
      obtain ⟨hji, e, he, hb, rfl⟩ := ok_look hok ho ht hj
      rw [hafter e he hb]
      simpa using hji
    have hev := same_eval (Region.noSelect_spec (ok_sel hok).1 i o · · ho) hsame
    have hwa := same_wanted (ops := ops) hsame
    have next : ∀ w2, S' w2 → S w2 ∧ wpX P ops S R f (listed.setIfInBounds i true) ((stP ops v a0 (fun i => listed.getD i false) ops.size).put o.dst (v i)) w2 := fun w2 hS2 => by
      refine ⟨hSS _ hS2, ?_⟩
      rw [stP_put hd ho (L' := fun j => (listed.setIfInBounds i true).getD j false) hset]
      refine ih _ w2 (by simpa using hsz) (closed_set hc hi) ?_ (fun j hj => ?_) hS2
      · have hi' : i < listed.toList.length := by simpa [hsz] using hlt
        have hfalse : listed.toList[i] = false := by
          have hi'' : i < listed.size := by omega
          simpa [hi''] using h0
        rw [Array.toList_setIfInBounds, List.count_set hi']
        simp only [hfalse]
        simp
        have : 0 < listed.toList.count false := List.count_pos_iff.2 (by rw [← hfalse]; exact List.getElem_mem hi')
        rw [← Array.count_toList]
        omega
      · rw [hset, hm j hj]; rfl
    unfold wpOp
    simp only [ho]
    rcases H i hmi o ho with ⟨hw, hg⟩ | ⟨hw, hu⟩
    · rw [hwa, hw, if_pos rfl]
      refine .inl ?_
      have hg := hg w' (hS' _ _ hS hx)
      unfold Gives at hg
      rw [← hev] at hg
      exact gives_wp (S := S') (by unfold Gives; exact hg) next
    · rw [hwa, hw]
      simp only [Bool.false_eq_true, if_false]
      rw [← hu]
      exact next w' (hS' _ _ hS hx)
theorem mixX_any {m : Nat} {T : List Nat} (hSx : ∀ w w', S' w → Ext w w' → S' w') (hSS : ∀ w, S' w → S w) (hok : mixOk ops T = true) (H : ∀ j o, m ≤ j → ops[j]? = some o → T.contains j = false → GoodX P ops S' T v a0 j o) :
    ∀ (fuel : Nat) (listed : Array Bool) (w : World) (u : Nat → Value) (f : Nat) (lx : Array Bool) (ds : List Deferred), listed.size = ops.size → lx.size = ops.size → Closed ops listed → listed.toList.count false ≤ fuel → (∀ j, j < m → listed.getD j false = true) →
      (∀ i, T.contains i = false → u i = v i) → (∀ i, i < ops.size → lx.getD i false = (listed.getD i false || !T.contains i)) → S' w →
      wpX P ops S' R f lx (stP ops u ⟨a0.tmps, ds⟩ (fun i => listed.getD i false || !T.contains i) ops.size) w → wpX P ops S R fuel listed (stP ops u ⟨a0.tmps, ds⟩ (fun i => listed.getD i false) ops.size) w := by
  have hd := mix_dst hok
  intro fuel
  induction fuel with
  | zero =>
    intro listed w u f lx ds hsz hlx hc hf hmm hu hl hE hX
    have hall : ∀ i, i < ops.size → listed.getD i false = true := fun i hi => by
      have h0 : List.count false listed.toList = 0 := by omega
      rw [List.count_eq_zero] at h0
      have hi' : i < listed.size := by omega
      cases hx : listed.getD i false with
      | true => rfl
      | false =>
        exfalso
        apply h0
        have : listed[i] = false := by simpa [hi'] using hx
        rw [← this]
        exact Array.mem_toList_iff.2 (Array.getElem_mem hi')
    have nil : ∀ l : Array Bool, l.size = ops.size → (∀ i, i < ops.size → l.getD i false = true) → Region.ready .any ops l = [] := fun l hs hall => by
      refine List.eq_nil_iff_forall_not_mem.2 fun i hi => ?_
      obtain ⟨h0, o, ho, _⟩ := mem_ready.1 hi
      have hlt := (Array.getElem?_eq_some_iff.1 ho).1
      rw [listed_at hs hlt, hall i hlt] at h0
      cases h0
    have e : stP ops u ⟨a0.tmps, ds⟩ (fun i => listed.getD i false || !T.contains i) ops.size = stP ops u ⟨a0.tmps, ds⟩ (fun i => listed.getD i false) ops.size :=
      stP_congr _ (fun i hi => by rw [hall i hi]; rfl) (fun i _ _ => rfl)
    rw [e] at hX
    have hx := nil lx hlx (fun i hi => by rw [hl i hi, hall i hi]; rfl)
    refine ⟨nil listed hsz hall, ?_⟩
    cases f with
    | zero => exact hX.2
    | succ f => exact hX.1 hx
  | succ fuel ih =>
    intro listed w u f lx ds hsz hlx hc hf hmm hu hl hE hX
    refine ⟨fun h0 => ?_, fun i hi w' hxw => ?_⟩
    · -- all have come up
      have hall : ∀ i, i < ops.size → listed.getD i false = true := by
        have : ∀ m i, i < m → i < ops.size → listed.getD i false = true := by
          intro m
          induction m with
          | zero => intro i h; omega
          | succ m ihm =>
            intro i him hlt
            cases hx : listed.getD i false with
            | true => rfl
            | false =>
              exfalso
              have hin : i ∈ Region.ready .any ops listed := mem_ready.2 ⟨by rw [listed_at hsz hlt]; exact hx, ops[i], by simp [hlt], fun e he hb => by
                have := mix_edge hok (j := i) (o := ops[i]) (by simp [hlt]) he hb
                exact ihm e.on (by omega) (by omega)⟩
              rw [h0] at hin
              cases hin
        exact fun i hi => this (i + 1) i (by omega) hi
      have e : stP ops u ⟨a0.tmps, ds⟩ (fun i => listed.getD i false || !T.contains i) ops.size = stP ops u ⟨a0.tmps, ds⟩ (fun i => listed.getD i false) ops.size :=
        stP_congr _ (fun i hi => by rw [hall i hi]; rfl) (fun i _ _ => rfl)
      rw [e] at hX
      have hx : Region.ready .any ops lx = [] := by
        refine List.eq_nil_iff_forall_not_mem.2 fun i hi => ?_
        obtain ⟨h0, o, ho, _⟩ := mem_ready.1 hi
        have hlt := (Array.getElem?_eq_some_iff.1 ho).1
        rw [listed_at hlx hlt, hl i hlt, hall i hlt] at h0
        cases h0
      cases f with
      | zero => exact hX.2
      | succ f => exact hX.1 hx
    · replace hE := hSx _ _ hE hxw
      replace hX := wpX_ext hX hxw
      clear hxw
      obtain ⟨h0, o, ho, hafter⟩ := mem_ready.1 hi
      have hlt := (Array.getElem?_eq_some_iff.1 ho).1
      have h0' : listed.getD i false = false := by rw [← listed_at hsz hlt]; exact h0
      have hset : ∀ (l : Array Bool), l.size = ops.size → ∀ j, (l.setIfInBounds i true).getD j false = (l.getD j false || j == i) := fun l hs j => by
        by_cases hij : i = j
        · subst hij; simp [hs, hlt]
        · rw [getD_set_ne false hij]
          have : (j == i) = false := by simpa using fun e => hij e.symm
          rw [this, Bool.or_false]
      have hcount : (listed.setIfInBounds i true).toList.count false ≤ fuel := by
        have hi' : i < listed.toList.length := by simpa [hsz] using hlt
        have hfalse : listed.toList[i] = false := by
          have hi'' : i < listed.size := by omega
          simpa [hi''] using h0
        rw [Array.toList_setIfInBounds, List.count_set hi']
        simp only [hfalse]
        simp
        have : 0 < listed.toList.count false := List.count_pos_iff.2 (by rw [← hfalse]; exact List.getElem_mem hi')
        rw [← Array.count_toList]
        omega
      have hmi : m ≤ i := by
        rcases Nat.lt_or_ge i m with h | h
        · rw [hmm i h] at h0'; cases h0'
        · exact h
      have hmset : ∀ j, j < m → (listed.setIfInBounds i true).getD j false = true := fun j hj => by rw [hset listed hsz, hmm j hj]; rfl
      -- what it looks at is there
      have hlook : ∀ t ∈ o.looksAt ops, ∀ j, dstOf ops j = some t → (j < i ∧ listed.getD j false = true ∧ (T.contains j = true → T.contains i = true)) ∨ (T.contains j = true ∧ listed.getD j false = false) := fun t ht j hj => by
        rcases mix_look hok ho ht hj with ⟨h1, ⟨e, he, hb, rfl⟩, h3⟩ | ⟨h1, h2, x, hx, e, he, hb, hon⟩
        · exact .inl ⟨h1, hafter e he hb, h3⟩
        · refine .inr ⟨h1, ?_⟩
          cases hlj : listed.getD j false with
          | false => rfl
          | true =>
            have := hc j x hx hlj e he hb
            rw [hon, h0'] at this
            cases this
      cases hT : T.contains i with
      | false =>
        have hsame : ∀ t ∈ o.looksAt ops, (stP ops u ⟨a0.tmps, ds⟩ (fun i => listed.getD i false) ops.size).tmps[t]? = (stP ops v a0 (fun i => !T.contains i) i).tmps[t]? := fun t ht => by
          by_cases hx : ∃ j, dstOf ops j = some t
          · obtain ⟨j, hj⟩ := hx
            rcases hlook t ht j hj with ⟨h1, h2, h3⟩ | ⟨h1, h2⟩
            · have hn : T.contains j = false := by
                cases h : T.contains j with
                | false => rfl
                | true => have := h3 h; rw [hT] at this; cases this
              rw [stP_some hj h2 (fun k hk => hd k j t hk hj) _ (dst_lt hj), stP_some hj (by rw [hn]; rfl) (fun k hk => hd k j t hk hj) _ h1, hu j hn]
            · rw [stP_none _ (fun k _ hl' hk => by
                rw [hd k j t hk hj, h2] at hl'; cases hl'), stP_none _ (fun k _ hl' hk => by
                rw [hd k j t hk hj, h1] at hl'; cases hl')]
          · rw [stP_none _ (fun j _ _ hj => hx ⟨j, hj⟩), stP_none _ (fun j _ _ hj => hx ⟨j, hj⟩)]
        have hev := same_eval (Region.noSelect_spec (mix_sel hok) i o · · ho) hsame
        have hwa := same_wanted (ops := ops) hsame
        have next : ∀ w2, Ext w' w2 → S w2 ∧ wpX P ops S R fuel (listed.setIfInBounds i true) ((stP ops u ⟨a0.tmps, ds⟩ (fun i => listed.getD i false) ops.size).put o.dst (v i)) w2 := fun w2 hx => by
          refine ⟨hSS _ (hSx _ _ hE hx), ?_⟩
          rw [← hu i hT, stP_put hd ho (L' := fun j => (listed.setIfInBounds i true).getD j false) (hset listed hsz)]
          refine ih _ w2 u f lx ds (by simpa using hsz) hlx (closed_set hc hi) hcount hmset hu (fun j hj => ?_) (hSx _ _ hE hx) ?_
          · rw [hl j hj, hset listed hsz]
            by_cases hji : j = i
            · subst hji; rw [hT]; cases listed.getD j false <;> simp
            · rw [show (j == i) = false by simpa using hji, Bool.or_false]
          · have e : stP ops u ⟨a0.tmps, ds⟩ (fun j => (listed.setIfInBounds i true).getD j false || !T.contains j) ops.size = stP ops u ⟨a0.tmps, ds⟩ (fun i => listed.getD i false || !T.contains i) ops.size :=
              stP_congr _ (fun j hj => by
                rw [hset listed hsz]
                by_cases hji : j = i
                · subst hji; rw [hT]; cases listed.getD j false <;> simp
                · rw [show (j == i) = false by simpa using hji, Bool.or_false]) (fun i _ _ => rfl)
            rw [e]
            exact wpX_ext hX hx
        unfold wpOp
        simp only [ho]
        rcases H i o hmi ho hT with ⟨hw, hg⟩ | ⟨hw, hu'⟩
        · rw [hwa, hw, if_pos rfl]
          refine .inl ?_
          have hg := hg w' hE
          unfold Gives at hg
          rw [← hev] at hg
          exact gives_wp (S := fun w2 => Ext w' w2) (by unfold Gives; exact hg) next
        · rw [hwa, hw]
          simp only [Bool.false_eq_true, if_false]
          rw [← hu']
          exact next w' (Ext.refl w')
      | true =>
        have hlxi : lx.getD i false = false := by rw [hl i hlt, h0', hT]; rfl
        have hin : i ∈ Region.ready .any ops lx := mem_ready.2 ⟨by rw [listed_at hlx hlt]; exact hlxi, o, ho, fun e he hb => by
          have h1 := hafter e he hb
          have := mix_edge hok ho he hb
          rw [hl _ (by omega), h1]; rfl⟩
        cases f with
        | zero => rw [hX.1] at hin; cases hin
        | succ f =>
          have hstep := hX.2 i hin w' (Ext.refl w')
          have hsame : ∀ t ∈ o.looksAt ops, (stP ops u ⟨a0.tmps, ds⟩ (fun i => listed.getD i false) ops.size).tmps[t]? = (stP ops u ⟨a0.tmps, ds⟩ (fun i => listed.getD i false || !T.contains i) ops.size).tmps[t]? := fun t ht =>
            stP_look hd fun j hj => by
              rcases hlook t ht j hj with ⟨_, h2, _⟩ | ⟨h1, h2⟩
              · rw [h2]; rfl
              · rw [h1, h2]; rfl
          have hev := same_eval (Region.noSelect_spec (mix_sel hok) i o · · ho) hsame
          have hwa := same_wanted (ops := ops) hsame
          have next : ∀ (ds : List Deferred) (x : Value) (w2 : World), S' w2 → wpX P ops S' R f (lx.setIfInBounds i true) ((stP ops u ⟨a0.tmps, ds⟩ (fun i => listed.getD i false || !T.contains i) ops.size).put o.dst x) w2 →
              S w2 ∧ wpX P ops S R fuel (listed.setIfInBounds i true) ((stP ops u ⟨a0.tmps, ds⟩ (fun i => listed.getD i false) ops.size).put o.dst x) w2 := fun ds x w2 hE' hx => by
            refine ⟨hSS _ hE', ?_⟩
            have c1 : ∀ L : Nat → Bool, L i = false → stP ops u ⟨a0.tmps, ds⟩ L ops.size = stP ops (fun j => if j = i then x else u j) ⟨a0.tmps, ds⟩ L ops.size := fun L hL =>
              stP_congr _ (fun _ _ => rfl) (fun j _ hj => by
                by_cases hji : j = i
                · subst hji; rw [hL] at hj; cases hj
                · simp [hji])
            have p1 : ∀ L L' : Nat → Bool, L i = false → (∀ j, L' j = (L j || j == i)) → (stP ops u ⟨a0.tmps, ds⟩ L ops.size).put o.dst x = stP ops (fun j => if j = i then x else u j) ⟨a0.tmps, ds⟩ L' ops.size := fun L L' hL hL' => by
              rw [c1 L hL]
              have := stP_put (v := fun j => if j = i then x else u j) (a0 := ⟨a0.tmps, ds⟩) hd ho hL'
              simp only [if_true] at this
              exact this
            rw [p1 (fun i => listed.getD i false) (fun j => (listed.setIfInBounds i true).getD j false) h0' (hset listed hsz)]
            rw [p1 (fun i => listed.getD i false || !T.contains i) (fun j => (listed.setIfInBounds i true).getD j false || !T.contains j) (by rw [h0', hT]; rfl) (fun j => by rw [hset listed hsz]; cases listed.getD j false <;> cases T.contains j <;> cases (j == i) <;> rfl)] at hx
            refine ih _ w2 _ f (lx.setIfInBounds i true) ds (by simpa using hsz) (by simpa using hlx) (closed_set hc hi) hcount hmset (fun j hj => ?_) (fun j hj => ?_) hE' hx
            · have : j ≠ i := fun e => by subst e; rw [hT] at hj; cases hj
              simp [this, hu j hj]
            · rw [hset lx hlx, hset listed hsz, hl j hj]
              cases listed.getD j false <;> cases T.contains j <;> cases (j == i) <;> rfl
          unfold wpOp at hstep ⊢
          simp only [ho] at hstep ⊢
          rw [hwa]
          split
          · rename_i hw
            rw [if_pos hw] at hstep
            rcases hstep with hs | ⟨_, a, w, hq⟩
            · refine .inl ?_
              unfold Oper.wp at hs ⊢
              rw [hev]
              generalize (execOp (stP ops u ⟨a0.tmps, ds⟩ (fun i => listed.getD i false || !T.contains i) ops.size).eval o).run P w' = r at hs
              cases r with
              | ok n w2 =>
                cases n <;> simp only [Oper.upon] at hs ⊢
                case value x => exact next ds x w2 hs.1 hs.2
                case skip => exact next ds undef w2 hs.1 hs.2
                case defer d =>
                  have e : ∀ L, ({ stP ops u ⟨a0.tmps, ds⟩ L ops.size with defers := d :: (stP ops u ⟨a0.tmps, ds⟩ L ops.size).defers } : Act) = stP ops u ⟨a0.tmps, d :: ds⟩ L ops.size := fun L => by
                    rw [stP_defs a0.tmps (d :: ds) ds L, stP_defers]
                  rw [e] at hs ⊢
                  exact next (d :: ds) undef w2 hs.1 hs.2
                case enter g args =>
                  refine Calls.mono hs fun e w'' he => ?_
                  cases e with
                  | returned x => exact next ds x w'' he.1 he.2
                  | panicked c => exact he.elim
                  | outgrown => obtain ⟨a, w, hq⟩ := he; exact hq.elim
                case row row args => exact Rows.mono hs fun x w'' he => next ds x w'' he.1 he.2
              | halt x w2 => cases x <;> simp only [Oper.upon] at hs ⊢ <;> exact hs.elim
            · exact hq.elim
          · rename_i hw
            rw [if_neg hw] at hstep
            exact next ds undef w' hstep.1 hstep.2
theorem put_same {a : Act} {d : Option Tmp} {u : Value} (h : ∀ t, d = some t → a.tmps.getD t undef = u) : a.put d u = a := by
  refine act_ext (fun t => ?_) (put_defers a d u)
  cases d with
  | none => rfl
  | some d =>
    rw [put_get]
    by_cases e : d = t
    · subst e
      rw [if_pos rfl]
      have := h d rfl
      by_cases hl : d < a.tmps.size
      · rw [if_pos hl]
        subst this
        simp [hl]
      · rw [if_neg hl]
        exact (Array.getElem?_eq_none (Nat.le_of_not_lt hl)).symm
    · rw [if_neg e]
/-- the first m have come up, no other -/
def restOk (ops : Array Oper) (listed : Array Bool) (m : Nat) : Bool :=
  listed.size == ops.size && (List.range ops.size).all (fun i => listed.getD i false == decide (i < m)) && decide (m ≤ ops.size)
theorem wpX_rest (m : Nat) {S' : World → Prop} {f : Nat} {listed : Array Bool} {a : Act} {w : World} (hok : heldOk ops ops.size = true) (hr : (restOk ops listed m && decide (ops.size ≤ m + f)) = true) (hS' : ∀ w w', S' w → Ext w w' → S' w') (hSS : ∀ w, S' w → S w) (hS : S' w)
    (h : ∀ K : Act → Prop, (∀ a', (∀ w', S' w' → R a' w') → K a') → hO P ops S' K (ops.toList.drop m) a) : wpX P ops S R f listed a w := by
  obtain ⟨vs, hl, hK, hs⟩ := hO_spec _ _ (h _ (fun _ h => h))
  unfold restOk at hr
  simp only [Bool.and_eq_true, beq_iff_eq, List.all_eq_true, List.mem_range, decide_eq_true_eq] at hr
  obtain ⟨⟨⟨hsz, hli⟩, hms⟩, hf⟩ := hr
  have hd := ok_dst hok
  let v : Nat → Value := fun i => if i < m then (match dstOf ops i with | some t => a.tmps.getD t undef | none => undef) else vs.getD (i - m) undef
  have hlow : ∀ (L : Nat → Bool) k, k ≤ m → stP ops v a L k = a := by
    intro L k
    induction k with
    | zero => intro _; rfl
    | succ k ih =>
      intro hk
      have e := ih (by omega)
      unfold stP
      rw [e]
      cases ho : ops[k]? with
      | none => rfl
      | some o =>
        dsimp only
        split
        · refine put_same fun t ht => ?_
          have hdk : dstOf ops k = some t := by unfold dstOf; rw [ho]; exact ht
          show _ = v k
          simp only [v, if_pos (show k < m by omega), hdk]
        · rfl
  have hlen : vs.length = ops.size - m := by rw [hl]; simp
  have hup : ∀ k, m + k ≤ ops.size → stP ops v a (fun _ => true) (m + k) = (((ops.toList.drop m).zip vs).take k).foldl (fun a p => a.put p.1.dst p.2) a := by
    intro k
    induction k with
    | zero => intro _; simpa using hlow _ m (Nat.le_refl _)
    | succ k ih =>
      intro hk
      have hk1 : k < ((ops.toList.drop m).zip vs).length := by simp [hlen]; omega
      have hko : m + k < ops.size := by omega
      have hkv : k < vs.length := by omega
      rw [List.take_succ_eq_append_getElem hk1, List.foldl_append, ← ih (by omega)]
      show stP ops v a (fun _ => true) ((m + k) + 1) = _
      simp only [stP, Array.getElem?_eq_getElem hko, if_true, List.foldl_cons, List.foldl_nil, List.getElem_zip, List.getElem_drop, Array.getElem_toList]
      congr 1
      simp only [v, if_neg (show ¬ m + k < m by omega), Nat.add_sub_cancel_left]
      rw [List.getD_eq_getElem?_getD, List.getElem?_eq_getElem hkv, Option.getD_some]
  have ha : stP ops v a (fun i => listed.getD i false) ops.size = a := by
    have e : stP ops v a (fun i => listed.getD i false) ops.size = stP ops v a (fun i => decide (i < m)) ops.size := stP_congr _ (fun i hi => hli i hi) (fun _ _ _ => rfl)
    rw [e, ← stP_prefix hd m hms]
    exact hlow _ m (Nat.le_refl _)
  have main := wpX_held (P := P) (S := S) (S' := S') (R := R) (v := v) (a0 := a) (m := m) hok hS' hSS (fun j hj o ho => ?_) (fun w' hw' => ?_) f listed w hsz (fun j o ho hlj e he hb => ?_) ?_ (fun j hj => by rw [hli j (by omega)]; simpa using hj) hS
  · rw [ha] at main
    exact main
  · have hlt := (Array.getElem?_eq_some_iff.1 ho).1
    have e := hup (j - m) (by omega)
    rw [show m + (j - m) = j by omega] at e
    have := hs (j - m) o (by rw [List.getElem?_drop, show m + (j - m) = j by omega]; simpa using ho) _ rfl
    rw [← e] at this
    have hv : v j = vs.getD (j - m) undef := by simp only [v, if_neg (show ¬ j < m by omega)]
    unfold GoodAt
    rw [hv]
    exact this
  · have e := hup (ops.size - m) (by omega)
    rw [show m + (ops.size - m) = ops.size by omega, List.take_of_length_le (by simp [hlen])] at e
    rw [e]
    exact hK w' hw'
  · have hlt := (Array.getElem?_eq_some_iff.1 ho).1
    have h1 := ok_edge hok ho he hb
    rw [hli j hlt] at hlj
    have hjm : j < m := by simpa using hlj
    rw [hli e.on (by omega)]
    simp
    omega
  · have h1 : listed.toList = (List.range ops.size).map (fun i => decide (i < m)) := by
      refine List.ext_getElem (by simp [hsz]) fun i h1 h2 => ?_
      have hi : i < ops.size := by simpa using h2
      have := hli i hi
      simp only [List.getElem_map, List.getElem_range, ← this]
      simp [hsz, hi]
    rw [h1]
    have h2 : ∀ n, m ≤ n → List.count false ((List.range n).map (fun i => decide (i < m))) = n - m := by
      intro n
      induction n with
      | zero => intro h; simp
      | succ n ih =>
        intro h
        rw [List.range_succ, List.map_append, List.count_append]
        by_cases hn : m ≤ n
        · rw [ih hn]
          simp [show ¬ n < m by omega]
          omega
        · obtain rfl : m = n + 1 := by omega
          have : List.count false ((List.range n).map (fun i => decide (i < n + 1))) = 0 := by
            rw [List.count_eq_zero]
            intro hh
            obtain ⟨i, hi, e⟩ := List.mem_map.1 hh
            have := List.mem_range.1 hi
            simp at e
            omega
          rw [this]
          simp
    rw [h2 _ hms]
    omega
/-- The rest of a mixed region anew: from here on other operations are held, under a condition of their own. -/
theorem wpX_remix (m : Nat) {T : List Nat} {f : Nat} {listed : Array Bool} {a : Act} {w : World} (hS' : ∀ w w', S' w → Ext w w' → S' w') (hSS : ∀ w, S' w → S w) (hok : mixOk ops T = true) (hr : (restOk ops listed m && decide (ops.size ≤ m + f) && T.all (fun i => decide (m ≤ i))) = true) (hS : S' w)
    (h : ∀ K : Act → Prop, (∀ a', wpX P ops S' R T.length (lxOf ops.size T) a' w → K a') → hX P ops S' T K m (ops.toList.drop m) a) : wpX P ops S R f listed a w := by
  unfold restOk at hr
  simp only [Bool.and_eq_true, beq_iff_eq, List.all_eq_true, List.mem_range, decide_eq_true_eq] at hr
  obtain ⟨⟨⟨⟨hsz, hli⟩, hms⟩, hf⟩, hTm⟩ := hr
  have hd := mix_dst hok
  have hTf : ∀ i, i < m → T.contains i = false := fun i hi => by
    cases e : T.contains i with
    | false => rfl
    | true => have := hTm i (List.contains_iff_mem.1 e); omega
  let v0 : Nat → Value := fun i => match dstOf ops i with | some t => a.tmps.getD t undef | none => undef
  have hlow : ∀ (v : Nat → Value), (∀ i, i < m → v i = v0 i) → ∀ (L : Nat → Bool) k, k ≤ m → stP ops v a L k = a := by
    intro v hv L k
    induction k with
    | zero => intro _; rfl
    | succ k ih =>
      intro hk
      have e := ih (by omega)
      unfold stP
      rw [e]
      cases ho : ops[k]? with
      | none => rfl
      | some o =>
        dsimp only
        split
        · refine put_same fun t ht => ?_
          have hdk : dstOf ops k = some t := by unfold dstOf; rw [ho]; exact ht
          show _ = v k
          rw [hv k (by omega)]
          simp only [v0, hdk]
        · rfl
  obtain ⟨v, hvl, hK, hG⟩ := hX_spec (a0 := a) (v0 := v0) (ops.toList.drop m) m a rfl (hlow v0 (fun _ _ => rfl) _ m (Nat.le_refl _)).symm (h _ fun _ h => h)
  have ha : stP ops v a (fun i => listed.getD i false) ops.size = a := by
    have e : stP ops v a (fun i => listed.getD i false) ops.size = stP ops v a (fun i => decide (i < m)) ops.size := stP_congr _ (fun i hi => hli i hi) (fun _ _ _ => rfl)
    rw [e, ← stP_prefix hd m hms]
    exact hlow v hvl _ m (Nat.le_refl _)
  have main := mixX_any (P := P) (S := S) (S' := S') (R := R) (v := v) (a0 := a) (T := T) (m := m) hS' hSS hok (fun j o hj ho hT => hG j o hj ho hT) f listed w v T.length (lxOf ops.size T) a.defers hsz (by simp [lxOf]) (fun j o ho hlj e he hb => ?_) ?_ (fun j hj => by rw [hli j (by omega)]; simpa using hj) (fun _ _ => rfl) (fun i hi => ?_) hS ?_
  · rw [ha] at main
    exact main
  · have hlt := (Array.getElem?_eq_some_iff.1 ho).1
    have h1 := mix_edge hok ho he hb
    rw [hli j hlt] at hlj
    have hjm : j < m := by simpa using hlj
    rw [hli e.on (by omega)]
    simp
    omega
  · have h1 : listed.toList = (List.range ops.size).map (fun i => decide (i < m)) := by
      refine List.ext_getElem (by simp [hsz]) fun i h1 h2 => ?_
      have hi : i < ops.size := by simpa using h2
      have := hli i hi
      simp only [List.getElem_map, List.getElem_range, ← this]
      simp [hsz, hi]
    rw [h1]
    have h2 : ∀ n, m ≤ n → List.count false ((List.range n).map (fun i => decide (i < m))) = n - m := by
      intro n
      induction n with
      | zero => intro h; simp
      | succ n ih =>
        intro h
        rw [List.range_succ, List.map_append, List.count_append]
        by_cases hn : m ≤ n
        · rw [ih hn]
          simp [show ¬ n < m by omega]
          omega
        · obtain rfl : m = n + 1 := by omega
          have : List.count false ((List.range n).map (fun i => decide (i < n + 1))) = 0 := by
            rw [List.count_eq_zero]
            intro hh
            obtain ⟨i, hi, e⟩ := List.mem_map.1 hh
            have := List.mem_range.1 hi
            simp at e
            omega
          rw [this]
          simp
    rw [h2 _ hms]
    omega
  · rw [hli i hi]
    by_cases hm : i < m
    · simp [lxOf, hi, hm]
      have := hTf i hm
      simpa using this
    · simp [lxOf, hi, hm]
  · have e : stP ops v ⟨a.tmps, a.defers⟩ (fun i => listed.getD i false || !T.contains i) ops.size = stP ops v a (fun i => !T.contains i) ops.size :=
      stP_congr _ (fun i hi => by
        rw [hli i hi]
        by_cases hm : i < m
        · simp only [hTf i hm]; simp
        · simp [hm]) (fun _ _ _ => rfl)
    rw [e]
    exact hK
end
end Go.Proofs.Ytlaflbepidkmnaa
/- Three operations that may come in any order. -/
namespace Go.Proofs.Ytlaflbepidkmnaa
open Go.RowKit
section
variable {P : Program} {ops : Array Oper} {S : World → Prop} {R : Act → World → Prop}
theorem wpX_three {i j l : Nat} {oi oj ol : Oper} {f : Nat} {listed : Array Bool} {a : Act} {w : World} (hr : Region.ready .any ops listed = [i, j, l]) (hi : ops[i]? = some oi) (hj : ops[j]? = some oj) (hl : ops[l]? = some ol) (hgi : oi.guard = none) (hgj : oj.guard = none) (hgl : ol.guard = none)
    (h1 : ∀ w', Ext w w' → ∀ K : Act → World → Prop, (∀ a' w'', S w'' → wpX P ops S R f (listed.setIfInBounds i true) a' w'' → K a' w'') → oi.wp P a w' K qNone)
    (h2 : ∀ w', Ext w w' → ∀ K : Act → World → Prop, (∀ a' w'', S w'' → wpX P ops S R f (listed.setIfInBounds j true) a' w'' → K a' w'') → oj.wp P a w' K qNone)
    (h3 : ∀ w', Ext w w' → ∀ K : Act → World → Prop, (∀ a' w'', S w'' → wpX P ops S R f (listed.setIfInBounds l true) a' w'' → K a' w'') → ol.wp P a w' K qNone) : wpX P ops S R (f + 1) listed a w := by
  refine ⟨fun h0 => (by rw [h0] at hr; cases hr), fun k hk w' hx => ?_⟩
  rw [hr] at hk
  unfold wpOp
  rcases List.mem_cons.1 hk with rfl | hk
  · simp only [hi]
    rw [show Region.wanted oi (yielded ops a.tmps) = true by simp [Region.wanted, hgi], if_pos rfl]
    exact .inl (h1 w' hx _ fun a' w'' he hk => ⟨he, hk⟩)
  · rcases List.mem_cons.1 hk with rfl | hk
    · simp only [hj]
      rw [show Region.wanted oj (yielded ops a.tmps) = true by simp [Region.wanted, hgj], if_pos rfl]
      exact .inl (h2 w' hx _ fun a' w'' he hk => ⟨he, hk⟩)
    · obtain rfl : k = l := by simpa using hk
      simp only [hl]
      rw [show Region.wanted ol (yielded ops a.tmps) = true by simp [Region.wanted, hgl], if_pos rfl]
      exact .inl (h3 w' hx _ fun a' w'' he hk => ⟨he, hk⟩)
/-- a region after which four numbers are known to be, but not which -/
theorem wp_region_mix4 {Q : Exit → Act → World → Prop} {id : Nat} {T : List Nat} {a : Act} {w W : World} (G : Nat → Nat → Nat → Nat → World → Prop) {F : Nat → Nat → Nat → Nat → Act} (hSx : ∀ w w', S w → Ext w w' → S w') (hm : P.follows .mixedOrders = true) (hok : mixOk ops T = true) (hx : Ext W w.drew) (hS : S W)
    (h : ∀ K : Act → Prop, (∀ a', wpX P ops S (fun a w => ∃ x1 x2 x3 x4, a = F x1 x2 x3 x4 ∧ G x1 x2 x3 x4 w) T.length (lxOf ops.size T) a' W → K a') → hX P ops S T K 0 ops.toList a) (hR : ∀ x1 x2 x3 x4 w, G x1 x2 x3 x4 w → Q .normal (F x1 x2 x3 x4) w) : (Code.region id ops true).wp P Q a w :=
  wp_region_mix hSx hm hok hx hS (fun _ w ⟨x1, x2, x3, x4, e, h⟩ => e ▸ hR x1 x2 x3 x4 w h) h
end
end Go.Proofs.Ytlaflbepidkmnaa
/- App -/
namespace Go.Proofs.Ytlaflbepidkmnaa
open Go.RowKit
section
variable {P : Program}
theorem add_none (b o j : Nat) : (⟨b, o, none⟩ : Addr).add j = ⟨b, o + j, none⟩ := by unfold Addr.add; split <;> simp_all
theorem run_append_nothing (w : World) (base : Nat) (t ty e : TypeId) (i : TypeInfo) (size : Nat) (ht : P.underlying t = some (.slice e)) (hi : P.info? e = some i)
    (v : Value) (n : Nat) (xs : List Value) (hown : w.ownsRow base e size v n xs) (c : Nat) : (Builtin.append_ #[t, t] ty #[v, .slice none 0 c]).run P w = .ok v w := by
  rcases hown.2 with ⟨rfl, rfl⟩ | ⟨g, cap, cur, rfl, _, _, hnc, _⟩
  · simp [Builtin.append_, run_underlying ht, sizeOf, typeInfo, hi, Builtin.lenOf, Builtin.firstCells]
  · simp [Builtin.append_, run_underlying ht, sizeOf, typeInfo, hi, Builtin.lenOf, Builtin.firstCells, hnc, storeCells]
/-- a row of the call's own, m elements of a slice that lies anywhere (nil too) behind it -/
theorem run_append_row (w : World) (base : Nat) (t ty e : TypeId) {z : Value} {size bytes : Nat} (ht : P.underlying t = some (.slice e)) (hinfo : (P.info? e).map (fun i => (i.zero, i.size, i.bytes)) = some (some z, size, bytes)) (hzs : z.cells.size = size) (hsz : 0 < size)
    (v : Value) (n : Nat) (xs : List Value) (hown : w.ownsRow base e size v n xs) (A : Option Addr) (m c : Nat) (news : List Value) (hl : news.length = m * size)
    (hnews : 0 < m → ∃ b o, A = some ⟨b, o, none⟩ ∧ ∀ j u, news[j]? = some u → w.cell? ⟨b, o + j, none⟩ = some u) (h1 : ∀ u ∈ news, u.oneCell' = true)
    (hbytes : (n + m) * bytes ≤ 140737488355328) (h63 : n + m ≤ maxLen) (hbase : base ≤ w.heap.size) :
    ∃ v' w', (Builtin.append_ #[t, t] ty #[v, .slice A m c]).run P w = .ok v' w' ∧ w'.ownsRow base e size v' (n + m) (xs ++ news) ∧ w.grownBy w' v.ownBlock ∧ (v'.ownBlock = v.ownBlock ∨ v'.ownBlock = some w.heap.size) ∧ (v' = .slice none 0 0 ↔ v = .slice none 0 0 ∧ m = 0) := by
  obtain ⟨i, hi, hz0, hz1, hz2⟩ := info_parts hinfo
  rcases Nat.eq_zero_or_pos m with h0 | h0
  · subst h0
    have hn : news = [] := List.eq_nil_of_length_eq_zero (by simpa using hl)
    subst hn
    rcases A with _ | ad
    · exact ⟨v, w, run_append_nothing w base t ty e i size ht hi v n xs hown c, by simpa using hown, World.grownBy.refl w _, .inl rfl, by simp⟩
    · obtain ⟨v', w', hr, h2, h3, h4, h5⟩ := run_append_own_at (P := P) w base t ty e i z size bytes ht hi hz0 hz1 hz2 hzs hsz v n xs hown ad 0 c [] (by simp) (by simp) (by simp) h63 hbytes hbase
      exact ⟨v', w', hr, h2, h3, h5, h4⟩
  · obtain ⟨b, o, rfl, hc⟩ := hnews h0
    obtain ⟨v', w', hr, h2, h3, h4, h5⟩ := run_append_own_at (P := P) w base t ty e i z size bytes ht hi hz0 hz1 hz2 hzs hsz v n xs hown ⟨b, o, none⟩ m c news hl (fun j u hu => by rw [add_none]; exact hc j u hu) h1 h63 hbytes hbase
    exact ⟨v', w', hr, h2, h3, h5, h4⟩
theorem wp_append_row {w : World} {o : Oper} {a : Act} {K : Act → World → Prop} {Q : Exit → Act → World → Prop} (s x : Operand) (t : TypeId)
    (ho : o.op = .call { callee := .builtin .append, args := #[s, x], argTypes := #[t, t] }) (base : Nat) (e : TypeId) {z : Value} {size bytes : Nat} (ht : P.underlying t = some (.slice e))
    (hinfo : (P.info? e).map (fun i => (i.zero, i.size, i.bytes)) = some (some z, size, bytes)) (hzs : z.cells.size = size) (hsz : 0 < size)
    (v : Value) (n : Nat) (xs : List Value) (hs : a.eval s = v) (hown : w.ownsRow base e size v n xs) (A : Option Addr) (m c : Nat) (news : List Value) (hx : a.eval x = .slice A m c) (hl : news.length = m * size)
    (hnews : 0 < m → ∃ b o, A = some ⟨b, o, none⟩ ∧ ∀ j u, news[j]? = some u → w.cell? ⟨b, o + j, none⟩ = some u) (h1 : ∀ u ∈ news, u.oneCell' = true)
    (hbytes : (n + m) * bytes ≤ 140737488355328) (h63 : n + m ≤ maxLen) (hbase : base ≤ w.heap.size)
    (h : ∀ v' w', w'.ownsRow base e size v' (n + m) (xs ++ news) → w.grownBy w' v.ownBlock → (v'.ownBlock = v.ownBlock ∨ v'.ownBlock = some w.heap.size) → (v' = .slice none 0 0 ↔ v = .slice none 0 0 ∧ m = 0) → K (a.put o.dst v') w') : o.wp P a w K Q := by
  obtain ⟨v', w', hrun, h2, h3, h4, h5⟩ := run_append_row (P := P) w base t o.type e ht hinfo hzs hsz v n xs hown A m c news hl hnews h1 hbytes h63 hbase
  unfold Oper.wp execOp
  simp only [ho, resolve, invoke, builtin, Sem.run_bind, Sem.run_pure, Result.andThen_ok, List.map_toArray, List.map_cons, List.map_nil, hs, hx, hrun]
  exact h v' w' h2 h3 h4 h5
theorem wpList_append_row {w : World} {ops : Array Oper} {rest : List Oper} {o : Oper} {a : Act} {Q : Exit → Act → World → Prop} (hgd : o.guard = none) (s x : Operand) (t : TypeId)
    (ho : o.op = .call { callee := .builtin .append, args := #[s, x], argTypes := #[t, t] }) (base : Nat) (e : TypeId) {z : Value} {size bytes : Nat} (ht : P.underlying t = some (.slice e))
    (hinfo : (P.info? e).map (fun i => (i.zero, i.size, i.bytes)) = some (some z, size, bytes)) (hzs : z.cells.size = size) (hsz : 0 < size)
    (v : Value) (n : Nat) (xs : List Value) (hs : a.eval s = v) (hown : w.ownsRow base e size v n xs) (A : Option Addr) (m c : Nat) (news : List Value) (hx : a.eval x = .slice A m c) (hl : news.length = m * size)
    (hnews : 0 < m → ∃ b o, A = some ⟨b, o, none⟩ ∧ ∀ j u, news[j]? = some u → w.cell? ⟨b, o + j, none⟩ = some u) (h1 : ∀ u ∈ news, u.oneCell' = true)
    (hbytes : (n + m) * bytes ≤ 140737488355328) (h63 : n + m ≤ maxLen) (hbase : base ≤ w.heap.size)
    (h : ∀ v' w', w'.ownsRow base e size v' (n + m) (xs ++ news) → w.grownBy w' v.ownBlock → (v'.ownBlock = v.ownBlock ∨ v'.ownBlock = some w.heap.size) → (v' = .slice none 0 0 ↔ v = .slice none 0 0 ∧ m = 0) → wpList P ops Q rest (a.put o.dst v') w') : wpList P ops Q (o :: rest) a w :=
  wpList_plain hgd fun _ hK => wp_append_row s x t ho base e ht hinfo hzs hsz v n xs hs hown A m c news hx hl hnews h1 hbytes h63 hbase fun v' w' h2 h3 h4 h5 => hK _ _ (h v' w' h2 h3 h4 h5)

/-- one element more -/
theorem wpList_push {w : World} {ops : Array Oper} {rest : List Oper} {o : Oper} {a : Act} {Q : Exit → Act → World → Prop} (hgd : o.guard = none) (s x : Operand) (t : TypeId)
    (ho : o.op = .call { callee := .builtin .append, args := #[s, x], argTypes := #[t, t] }) (base : Nat) (e : TypeId) {z : Value} {size bytes : Nat} (ht : P.underlying t = some (.slice e))
    (hinfo : (P.info? e).map (fun i => (i.zero, i.size, i.bytes)) = some (some z, size, bytes)) (hzs : z.cells.size = size) (hsz : 0 < size) (hb : 0 < bytes) {α : Type} (enc : α → List Value) (xs : List α) (v : Value)
    (hs : a.eval s = v) (hown : OwnL enc w base e size v xs) (y : α) (g : Nat) (cs : Array Value) (e' : TypeId) (hx : a.eval x = .slice (some ⟨g, 0, none⟩) 1 1) (hB : Blk w g cs e') (hcs : cs.toList = enc y) (hl : (enc y).length = size)
    (h1 : ∀ u ∈ enc y, u.oneCell' = true) (hlen : (xs.length + 1) * bytes ≤ 140737488355328) (hbase : base ≤ w.heap.size)
    (h : ∀ v' w', OwnL enc w' base e size v' (xs ++ [y]) → w.grownBy w' v.ownBlock → (v'.ownBlock = v.ownBlock ∨ v'.ownBlock = some w.heap.size) → v' ≠ .slice none 0 0 → wpList P ops Q rest (a.put o.dst v') w') : wpList P ops Q (o :: rest) a w := by
  refine wpList_append_row hgd s x t ho base e ht hinfo hzs hsz v xs.length _ hs hown _ 1 1 (enc y) hx (by omega) (fun _ => ⟨g, 0, rfl, fun j u hu => ?_⟩) h1 hlen ?_ hbase fun v' w' h2 h3 h4 h5 => ?_
  · rw [Nat.zero_add, hB.cell, ← Array.getElem?_toList, hcs]
    exact hu
  · have : (xs.length + 1) * 1 ≤ (xs.length + 1) * bytes := Nat.mul_le_mul_left _ hb
    unfold maxLen
    omega
  · refine h v' w' ?_ h3 h4 (fun e => by have := (h5.1 e).2; omega)
    unfold OwnL
    rw [List.length_append, List.length_singleton, List.flatMap_append, List.flatMap_singleton]
    exact h2
end
end Go.Proofs.Ytlaflbepidkmnaa
/- append of one element onto a row of the call's own, as one operation. -/
namespace Go.Proofs.Ytlaflbepidkmnaa
open Go.RowKit
section
variable {P : Program}
theorem wp_push {w : World} {o : Oper} {a : Act} {K : Act → World → Prop} {Q : Exit → Act → World → Prop} (s x : Operand) (t : TypeId)
    (ho : o.op = .call { callee := .builtin .append, args := #[s, x], argTypes := #[t, t] }) (base : Nat) (e : TypeId) {z : Value} {size bytes : Nat} (ht : P.underlying t = some (.slice e))
    (hinfo : (P.info? e).map (fun i => (i.zero, i.size, i.bytes)) = some (some z, size, bytes)) (hzs : z.cells.size = size) (hsz : 0 < size) (hb : 0 < bytes) {α : Type} (enc : α → List Value) (xs : List α) (v : Value)
    (hs : a.eval s = v) (hown : OwnL enc w base e size v xs) (y : α) (g : Nat) (cs : Array Value) (e' : TypeId) (hx : a.eval x = .slice (some ⟨g, 0, none⟩) 1 1) (hB : Blk w g cs e') (hcs : cs.toList = enc y) (hl : (enc y).length = size)
    (h1 : ∀ u ∈ enc y, u.oneCell' = true) (hlen : (xs.length + 1) * bytes ≤ 140737488355328) (hbase : base ≤ w.heap.size)
    (h : ∀ v' w', OwnL enc w' base e size v' (xs ++ [y]) → w.grownBy w' v.ownBlock → (v'.ownBlock = v.ownBlock ∨ v'.ownBlock = some w.heap.size) → v' ≠ .slice none 0 0 → K (a.put o.dst v') w') : o.wp P a w K Q := by
  refine wp_append_row s x t ho base e ht hinfo hzs hsz v xs.length _ hs hown _ 1 1 (enc y) hx (by omega) (fun _ => ⟨g, 0, rfl, fun j u hu => ?_⟩) h1 hlen ?_ hbase fun v' w' h2 h3 h4 h5 => ?_
  · rw [Nat.zero_add, hB.cell, ← Array.getElem?_toList, hcs]
    exact hu
  · have : (xs.length + 1) * 1 ≤ (xs.length + 1) * bytes := Nat.mul_le_mul_left _ hb
    unfold maxLen
    omega
  · refine h v' w' ?_ h3 h4 (fun e => by have := (h5.1 e).2; omega)
    unfold OwnL
    rw [List.length_append, List.length_singleton, List.flatMap_append, List.flatMap_singleton]
    exact h2
/-- two operations that come to what they come to, in either order -/
theorem wpX_pure2 {ops : Array Oper} {S : World → Prop} {R : Act → World → Prop} {i j : Nat} {oi oj : Oper} {f : Nat} {listed : Array Bool} {a : Act} {w : World} (hr : Region.ready .any ops listed = [i, j]) (hi : ops[i]? = some oi) (hj : ops[j]? = some oj) (hgi : oi.guard = none) (hgj : oj.guard = none)
    (u v : Value) (hu : ∀ w, (execOp a.eval oi).run P w = .ok (.value u) w) (hv : ∀ w, (execOp a.eval oj).run P w = .ok (.value v) w)
    (hu' : ∀ w, (execOp (a.put oj.dst v).eval oi).run P w = .ok (.value u) w) (hv' : ∀ w, (execOp (a.put oi.dst u).eval oj).run P w = .ok (.value v) w)
    (hc : (a.put oj.dst v).put oi.dst u = (a.put oi.dst u).put oj.dst v) (hl : (listed.setIfInBounds j true).setIfInBounds i true = (listed.setIfInBounds i true).setIfInBounds j true)
    (r1 : Region.ready .any ops (listed.setIfInBounds i true) = [j]) (r2 : Region.ready .any ops (listed.setIfInBounds j true) = [i]) (hS : ∀ w', Ext w w' → S w')
    (h : ∀ w', Ext w w' → wpX P ops S R f ((listed.setIfInBounds i true).setIfInBounds j true) ((a.put oi.dst u).put oj.dst v) w') : wpX P ops S R (f + 2) listed a w := by
  have run : ∀ {o : Oper} {a : Act} {w : World} {u : Value} {K : Act → World → Prop}, (execOp a.eval o).run P w = .ok (.value u) w → K (a.put o.dst u) w → o.wp P a w K qNone := by
    intro o a w u K h1 h2
    unfold Oper.wp
    rw [h1]
    exact h2
  refine wpX_two hr hi hj hgi hgj ?_ ?_
  · intro w' hx K hK
    refine run (hu w') (hK _ _ (hS _ hx) (wpX_one r1 hj hgj ?_))
    intro w2 hx2 K2 hK2
    exact run (hv' w2) (hK2 _ _ (hS _ (hx.trans hx2)) (h _ (hx.trans hx2)))
  · intro w' hx K hK
    refine run (hv w') (hK _ _ (hS _ hx) (wpX_one r2 hi hgi ?_))
    intro w2 hx2 K2 hK2
    refine run (hu' w2) (hK2 _ _ (hS _ (hx.trans hx2)) ?_)
    rw [hc, hl]
    exact h _ (hx.trans hx2)
end
end Go.Proofs.Ytlaflbepidkmnaa
/- Ext0 -/
namespace Go.Proofs.Ytlaflbepidkmnaa
open Go.RowKit

/-- v reads as the numbers xs -/
def Ints (w : World) (v : Value) (xs : List Int) : Prop :=
  ∃ A c, v = .slice A xs.length c ∧ xs.length ≤ c ∧ c ≤ maxLen ∧ (xs ≠ [] → ∃ b o, A = some ⟨b, o, none⟩ ∧ ∀ i (h : i < xs.length), w.cell? ⟨b, o + i, none⟩ = some (.int .i64 xs[i]))
theorem Ints.below {w w' : World} {v : Value} {xs : List Int} (h : Ints w v xs) (hb : Below w.heap.size w w') : Ints w' v xs := by
  obtain ⟨A, c, rfl, h1, h2, h3⟩ := h
  refine ⟨A, c, rfl, h1, h2, fun hne => ?_⟩
  obtain ⟨b, o, e, hx⟩ := h3 hne
  exact ⟨b, o, e, fun i hi => (Keeps.below hb Any).cell trivial (hx i hi)⟩
theorem Ints.alloc {w : World} {v : Value} {xs : List Int} (h : Ints w v xs) (o : Obj) : Ints (w.alloc o) v xs := h.below ((Below.refl _ _).alloc (Nat.le_refl _) o)
theorem Ints.ext {w w' : World} {v : Value} {xs : List Int} (h : Ints w v xs) (hx : Ext w w') : Ints w' v xs := h.below hx.below
theorem Ints.at {w : World} {A : Option Addr} {n c : Nat} {xs : List Int} (h : Ints w (.slice A n c) xs) {k : Nat} (hk : k < xs.length) : ∃ b o, A = some ⟨b, o, none⟩ ∧ ∀ w', Ext w w' → w'.cell? ⟨b, o + k, none⟩ = some (.int .i64 xs[k]) := by
  obtain ⟨A', c', e1, _, _, h3⟩ := h
  obtain ⟨rfl, _, rfl⟩ := Value.slice.inj e1
  obtain ⟨b, o, e, hx⟩ := h3 (fun e => by rw [e] at hk; simp at hk)
  exact ⟨b, o, e, fun w' h => h.cell (hx k hk)⟩
theorem Blk.ext {w w' : World} {g : Nat} {t : TypeId} {cs : Array Value} (h : Blk w g cs t) (hx : Ext w w') : Blk w' g cs t := h.below hx.below h.lt
theorem Blk.under {w : World} {g : Nat} {t : TypeId} {cs : Array Value} (h : Blk w g cs t) : ∀ w', Ext w w' → ∀ i, w'.cell? ⟨g, i, none⟩ = cs[i]? := fun _ hx => (h.ext hx).cell
theorem Ext.set {W w : World} (h : Ext W w) {g i : Nat} (hg : W.heap.size ≤ g) (v : Value) : Ext W (w.setCell ⟨g, i, none⟩ v) := ⟨h.below.setCell hg _⟩
def encI (x : Int) : List Value := [.int .i64 x]
theorem infoI64 : (Try.prog.info? 2).map (fun i => (i.zero, i.size, i.bytes)) = some (some (.int .i64 0), 1, 8) := by kernel_rfl
/-- numbers of the call's own -/
def RowI (w : World) (base : Nat) (r : Value) (xs : List Int) : Prop := OwnL encI w base 2 1 r xs
theorem encI_flat (xs : List Int) : xs.flatMap encI = xs.map (Value.int .i64) := by
  induction xs with
  | nil => rfl
  | cons x xs ih => simp [List.flatMap_cons, encI, ih]
theorem RowI.ints {w : World} {base : Nat} {r : Value} {xs : List Int} (h : RowI w base r xs) : Ints w r xs := by
  have := h.read (R := IntR .i64) (F := Any) (fun _ => rfl) (fun _ _ _ => trivial) (fun b o x _ hx => hx 0 _ rfl)
  obtain ⟨A, c, e, h1, h2, h3⟩ := this
  refine ⟨A, c, e, h1, h2, fun hne => ?_⟩
  obtain ⟨b, o, e, _, hx⟩ := h3 hne
  exact ⟨b, o, e, fun i hi => by have := hx i hi; rw [Nat.mul_one] at this; exact this⟩
theorem own_types {α β : Type} {enc : α → List Value} {enc' : β → List Value} {w : World} {b b' : Nat} {e e' : TypeId} {s s' : Nat} {v v' : Value} {xs : List α} {ys : List β} (h : OwnL enc w b e s v xs) (h' : OwnL enc' w b' e' s' v' ys) (hne : e ≠ e') :
    ∀ k, v.ownBlock = some k → v'.ownBlock ≠ some k := by
  intro k hk hk'
  rcases h.2 with ⟨rfl, _⟩ | ⟨g, cap, cur, rfl, _, hh, _⟩
  · simp [Value.ownBlock] at hk
  · rcases h'.2 with ⟨rfl, _⟩ | ⟨g', cap', cur', rfl, _, hh', _⟩
    · simp [Value.ownBlock] at hk'
    · obtain rfl : g = k := by simpa [Value.ownBlock] using hk
      obtain rfl : g' = g := by simpa [Value.ownBlock] using hk'
      rw [hh] at hh'
      injection hh' with hh'
      injection hh' with _ ht
      exact hne ht
theorem Ints.news {w w' : World} {A : Option Addr} {n c : Nat} {xs : List Int} (h : Ints w (.slice A n c) xs) (hx : Ext w w') : 0 < n → ∃ b o, A = some ⟨b, o, none⟩ ∧ ∀ j u, (xs.map (Value.int .i64))[j]? = some u → w'.cell? ⟨b, o + j, none⟩ = some u := by
  obtain ⟨A', c', e1, _, _, h3⟩ := h
  obtain ⟨rfl, rfl, rfl⟩ := Value.slice.inj e1
  intro hn
  obtain ⟨b, o, e, hc⟩ := h3 (fun e => by rw [e] at hn; simp at hn)
  refine ⟨b, o, e, fun j u hu => ?_⟩
  rw [List.getElem?_map] at hu
  obtain ⟨y, hy, rfl⟩ := Option.map_eq_some_iff.1 hu
  obtain ⟨hj, rfl⟩ := List.getElem?_eq_some_iff.1 hy
  exact hx.cell (hc j hj)
theorem own_empty_at {w : World} {base : Nat} {e : TypeId} {g : Nat} (hg : g = w.heap.size) (hb : base ≤ w.heap.size) : (w.alloc (.cells #[] e)).ownsRow base e 1 (.slice (some ⟨g, 0, none⟩) 0 0) 0 [] := by
  subst hg
  exact World.ownsRow_made w #[] 0 hb (Nat.zero_le _) rfl
theorem own_slice {w : World} {base n : Nat} {e : TypeId} {size : Nat} {v : Value} {xs : List Value} (h : w.ownsRow base e size v n xs) : ∃ A c, v = .slice A n c := by
  rcases h.2 with ⟨rfl, rfl⟩ | ⟨g, cap, cur, rfl, _⟩
  · exact ⟨none, 0, rfl⟩
  · exact ⟨_, cap, rfl⟩
theorem Ext.of_grown {w w1 w2 : World} (h : Ext w w1) {g : Nat} (hg : w1.grownBy w2 (some g)) (hge : w.heap.size ≤ g) : Ext w w2 := h.grown hg (fun k e => by cases e; exact hge)

theorem own_ne_blk {α : Type} {enc : α → List Value} {w : World} {b : Nat} {e t : TypeId} {s g : Nat} {v : Value} {xs : List α} {cs : Array Value} (h : OwnL enc w b e s v xs) (hB : Blk w g cs t) (hne : e ≠ t) : v.ownBlock ≠ some g := by
  intro hk
  rcases h.2 with ⟨rfl, _⟩ | ⟨g', cap, cur, rfl, _, hh, _⟩
  · simp [Value.ownBlock] at hk
  · obtain rfl : g' = g := by simpa [Value.ownBlock] using hk
    unfold Blk at hB
    rw [hh] at hB
    injection hB with hB
    injection hB with _ ht
    exact hne ht
theorem infoPI : (Try.prog.info? 3).map (fun i => (i.zero, i.size, i.bytes)) = some (some (.int .i64 0), 1, 8) := by kernel_rfl
/-- a row of ints of the call's own -/
def RowP (w : World) (base : Nat) (r : Value) (xs : List Int) : Prop := OwnL encI w base 3 1 r xs
theorem RowP.ints {w : World} {base : Nat} {r : Value} {xs : List Int} (h : RowP w base r xs) : Ints w r xs := by
  have := OwnL.read h (R := fun w b o x => w.cell? ⟨b, o, none⟩ = some (.int .i64 x)) (F := Any) (fun _ => rfl) (fun _ _ _ => trivial) (fun b o p hp hx => by have := hx 0 _ rfl; exact this)
  obtain ⟨A, c, e, h1, h2, h3⟩ := this
  refine ⟨A, c, e, h1, h2, fun hne => ?_⟩
  obtain ⟨b, o, e, _, hx⟩ := h3 hne
  exact ⟨b, o, e, fun i hi => by have := hx i hi; rwa [Nat.mul_one] at this⟩
end Go.Proofs.Ytlaflbepidkmnaa
/- Chg -/
namespace Go.Proofs.Ytlaflbepidkmnaa
open Go.RowKit

structure Chg (F : Nat → Prop) (w w' : World) : Prop where
  os : w'.os = w.os
  tape : w'.tape = w.tape
  output : w'.output = w.output
  size : w.heap.size ≤ w'.heap.size
  block : ∀ k, k < w.heap.size → ¬ F k → w'.heap[k]? = w.heap[k]?
section
variable {F G : Nat → Prop} {w w' w'' W : World}
theorem Chg.refl (F : Nat → Prop) (w : World) : Chg F w w := ⟨rfl, rfl, rfl, Nat.le_refl _, fun _ _ _ => rfl⟩
theorem Chg.trans (h : Chg F w w') (k : Chg F w' w'') : Chg F w w'' :=
  ⟨k.os.trans h.os, k.tape.trans h.tape, k.output.trans h.output, Nat.le_trans h.size k.size, fun i hi hF => (k.block i (Nat.lt_of_lt_of_le hi h.size) hF).trans (h.block i hi hF)⟩
/-- a second change, whose blocks are the first one's or new -/
theorem Chg.andThen (h : Chg F w w') (k : Chg G w' w'') (hG : ∀ i, i < w.heap.size → G i → F i) : Chg F w w'' :=
  ⟨k.os.trans h.os, k.tape.trans h.tape, k.output.trans h.output, Nat.le_trans h.size k.size, fun i hi hF => (k.block i (Nat.lt_of_lt_of_le hi h.size) (fun g => hF (hG i hi g))).trans (h.block i hi hF)⟩
theorem Chg.to (h : Chg F w w') (hG : ∀ i, i < w.heap.size → F i → G i) : Chg G w w' := ⟨h.os, h.tape, h.output, h.size, fun i hi hF => h.block i hi (fun g => hF (hG i hi g))⟩
theorem Chg.of_ext (h : Ext w w') : Chg F w w' := ⟨h.below.os, h.below.tape, h.below.output, h.below.size, fun k hk _ => h.below.block k hk⟩
theorem Chg.of_below (h : Below w.heap.size w w') : Chg F w w' := .of_ext ⟨h⟩
theorem Chg.of_grown {row : Option Nat} (h : w.grownBy w' row) (hF : ∀ k, row = some k → F k) : Chg F w w' :=
  ⟨h.os, h.tape, h.output, h.size, fun k hk hn => h.block k hk (fun e => hn (hF k e.symm))⟩
theorem Chg.grown {row : Option Nat} (h : Chg F w w') (hg : w'.grownBy w'' row) (hF : ∀ k, row = some k → k < w.heap.size → F k) : Chg F w w'' :=
  h.andThen (G := fun k => row = some k) (.of_grown hg fun _ e => e) (fun i hi e => hF i e hi)
theorem Chg.ext (h : Chg F w w') (hx : Ext w' w'') : Chg F w w'' := h.trans (.of_ext hx)
theorem Chg.call (h : Chg F w w') (hx : Below w'.heap.size w' w'') : Chg F w w'' := h.trans (.of_below hx)
theorem Chg.drew (h : Chg F w w') : Chg F w w'.drew := ⟨h.os, h.tape, h.output, h.size, h.block⟩
theorem Chg.drewN (h : Chg F w w') (n : Nat) : Chg F w (w'.drewN n) := ⟨h.os, h.tape, h.output, h.size, h.block⟩
theorem Chg.alloc (h : Chg F w w') (o : Obj) : Chg F w (w'.alloc o) := h.ext ((Ext.refl _).alloc o)
theorem Chg.set (h : Chg F w w') {g i : Nat} (hF : F g ∨ w.heap.size ≤ g) (v : Value) : Chg F w (w'.setCell ⟨g, i, none⟩ v) :=
  ⟨h.os, h.tape, h.output, by simpa [World.setCell] using h.size, fun k hk hn => by
    have hne : k ≠ g := by
      rintro rfl
      rcases hF with hF | hF
      · exact hn hF
      · omega
    rw [Below.heap_setCell w' ⟨g, i, none⟩ v k hne]
    exact h.block k hk hn⟩
/-- nothing that was there has changed -/
theorem Chg.below (h : Chg F w w') {B : Nat} (hB : B ≤ w.heap.size) (hF : ∀ k, F k → B ≤ k) : Below B w w' :=
  ⟨h.os, h.tape, h.output, h.size, fun k hk => h.block k (by omega) (fun f => by have := hF k f; omega)⟩
theorem Ext.chg (hx : Ext W w) (h : Chg F w w') (hF : ∀ k, F k → W.heap.size ≤ k) : Ext W w' := ⟨hx.below.trans (h.below hx.size hF)⟩
theorem Blk.chg {g : Nat} {t : TypeId} {cs : Array Value} (h : Blk w g cs t) (hx : Chg F w w') (hF : ¬ F g) : Blk w' g cs t := (hx.block g h.lt hF).trans h
theorem OwnL.chg {α : Type} {enc : α → List Value} {base size : Nat} {e : TypeId} {v : Value} {xs : List α} (h : OwnL enc w base e size v xs) (hx : Chg F w w') (hF : ∀ k, v.ownBlock = some k → ¬ F k) : OwnL enc w' base e size v xs := by
  obtain ⟨h1, h2⟩ := h
  refine ⟨h1, ?_⟩
  rcases h2 with h2 | ⟨g, cap, cur, hv, hg, hh, r⟩
  · exact .inl h2
  · exact .inr ⟨g, cap, cur, hv, hg, (hx.block g (Array.getElem?_eq_some_iff.1 hh).1 (hF g (by rw [hv]; rfl))).trans hh, r⟩
theorem cell_chg {b o : Nat} {v : Value} (h : w.cell? ⟨b, o, none⟩ = some v) (hx : Chg F w w') (hF : ¬ F b) : w'.cell? ⟨b, o, none⟩ = some v := by
  rw [World.cell?_of_block (w := w) (a := ⟨b, o, none⟩) (hx.block b (World.block_lt_of_cell? w ⟨b, o, none⟩ h) hF)]
  exact h
/-- the block a row of the call's own lies in has that row's type -/
theorem OwnL.block {α : Type} {enc : α → List Value} {base size : Nat} {e : TypeId} {v : Value} {xs : List α} (h : OwnL enc w base e size v xs) {k : Nat} (hk : v.ownBlock = some k) : ∃ cs, Blk w k cs e := by
  rcases h.2 with ⟨rfl, _⟩ | ⟨g, cap, cur, rfl, _, hh, _⟩
  · simp [Value.ownBlock] at hk
  · obtain rfl : g = k := by simpa [Value.ownBlock] using hk
    exact ⟨_, hh⟩
theorem Blk.type {g : Nat} {t t' : TypeId} {cs cs' : Array Value} (h : Blk w g cs t) (h' : Blk w g cs' t') : t = t' ∧ cs = cs' := by
  unfold Blk at h h'
  rw [h] at h'
  injection h' with h'
  injection h' with h1 h2
  exact ⟨h2, h1⟩
theorem Blk.apart {g g' : Nat} {t t' : TypeId} {cs cs' : Array Value} (h : Blk w g cs t) (h' : Blk w g' cs' t') (hne : t ≠ t') : g ≠ g' := by
  rintro rfl
  exact hne (h.type h').1
/-- the blocks from base on of these types -/
def OfT (w : World) (base : Nat) (ts : List TypeId) (k : Nat) : Prop := base ≤ k ∧ ∃ t ∈ ts, ∃ cs, Blk w k cs t
theorem Blk.notT {base g : Nat} {t : TypeId} {cs : Array Value} {ts : List TypeId} (h : Blk w g cs t) (ht : ts.contains t = false) : ¬ OfT w base ts g := by
  rintro ⟨_, t', ht', cs', h'⟩
  have := (h.type h').1
  subst this
  rw [List.contains_iff_mem.2 ht'] at ht
  cases ht
theorem OwnL.notT {α : Type} {enc : α → List Value} {base b size : Nat} {e : TypeId} {v : Value} {xs : List α} {ts : List TypeId} (h : OwnL enc w b e size v xs) (ht : ts.contains e = false) : ∀ k, v.ownBlock = some k → ¬ OfT w base ts k := by
  intro k hk
  obtain ⟨cs, hB⟩ := h.block hk
  exact hB.notT ht
theorem Blk.ofT {base g : Nat} {t : TypeId} {cs : Array Value} {ts : List TypeId} (h : Blk w g cs t) (hb : base ≤ g) (ht : t ∈ ts) : OfT w base ts g := ⟨hb, t, ht, cs, h⟩
theorem OwnL.ofT {α : Type} {enc : α → List Value} {base b size : Nat} {e : TypeId} {v : Value} {xs : List α} {ts : List TypeId} (h : OwnL enc w b e size v xs) (hb : base ≤ b) (ht : e ∈ ts) : ∀ k, v.ownBlock = some k → OfT w base ts k := by
  intro k hk
  obtain ⟨cs, hB⟩ := h.block hk
  exact ⟨by have := (h.lt k hk).1; omega, e, ht, cs, hB⟩
/-- what is of such a type now was so then -/
theorem OfT.back {base base' k : Nat} {ts ts' : List TypeId} {w w' : World} (h : OfT w' base ts k) (hc : Chg (OfT w base' ts') w w') (hk : k < w.heap.size) (hb : base' ≤ base := by exact Nat.le_refl _) (hts : ∀ t ∈ ts, t ∈ ts' := by exact fun _ h => h) : OfT w base' ts' k := by
  obtain ⟨h1, t, ht, cs, hB⟩ := h
  by_cases hF : OfT w base' ts' k
  · exact hF
  · exact ⟨by omega, t, hts t ht, cs, (hc.block k hk hF).symm.trans hB⟩
theorem OwnL.slice2 {α : Type} {enc : α → List Value} {base size : Nat} {e : TypeId} {v : Value} {xs : List α} (h : OwnL enc w base e size v xs) : ∃ A c, v = .slice A xs.length c := by
  obtain ⟨A, c, e, _, _⟩ := h.form
  exact ⟨A, c, e⟩
end
end Go.Proofs.Ytlaflbepidkmnaa
/- RowB -/
namespace Go.Proofs.Ytlaflbepidkmnaa
open Go.RowKit
theorem own_empty_n {w : World} {base size : Nat} {e : TypeId} (hb : base ≤ w.heap.size) : (w.alloc (.cells #[] e)).ownsRow base e size (.slice (some ⟨w.heap.size, 0, none⟩) 0 0) 0 [] :=
  World.ownsRow_made w #[] 0 hb (Nat.zero_le _) (by simp)
section
variable {α : Type} {enc : α → List Value} {size : Nat}
theorem flat_get (hsz : ∀ x, (enc x).length = size) {j : Nat} (hj : j < size) : ∀ (xs : List α) (i : Nat) (hi : i < xs.length), (xs.flatMap enc)[i * size + j]? = (enc xs[i])[j]?
  | [], _, hi => by simp at hi
  | x :: xs, 0, _ => by
    simp only [List.flatMap_cons, List.getElem_cons_zero, Nat.zero_mul, Nat.zero_add]
    exact List.getElem?_append_left (by rw [hsz]; exact hj)
  | x :: xs, i + 1, hi => by
    simp only [List.flatMap_cons, List.getElem_cons_succ]
    rw [List.getElem?_append_right (by rw [hsz, Nat.add_mul]; omega), ← flat_get hsz hj xs i (by simpa using hi), hsz, show (i + 1) * size + j - size = i * size + j by rw [Nat.add_mul]; omega]
theorem flat_put (hsz : ∀ x, (enc x).length = size) {k : Nat} (hk : k < size) (u : Value) (p' : α) : ∀ (ps : List α) (i : Nat), (∀ h : i < ps.length, enc p' = (enc ps[i]).set k u) → (ps.flatMap enc).set (i * size + k) u = (ps.set i p').flatMap enc
  | [], i, _ => by simp
  | p :: ps, 0, h => by
    have := h (by simp)
    simp only [List.getElem_cons_zero] at this
    simp only [List.flatMap_cons, List.set_cons_zero, Nat.zero_mul, Nat.zero_add]
    rw [this, List.set_append_left _ _ (by rw [hsz]; exact hk)]
  | p :: ps, i + 1, h => by
    simp only [List.flatMap_cons, List.set_cons_succ]
    rw [← flat_put hsz hk u p' ps i (fun hi => by have := h (by simpa using hi); simpa using this), List.set_append_right _ _ (by rw [hsz, Nat.add_mul]; omega)]
    congr 2
    rw [hsz, Nat.add_mul]
    omega
/-- block g is the row xs -/
def RowBk (enc : α → List Value) (w : World) (g : Nat) (t : TypeId) (xs : List α) : Prop := Blk w g (xs.flatMap enc).toArray t
variable {w w' : World} {g : Nat} {t : TypeId} {xs : List α}
theorem RowBk.at (h : RowBk enc w g t xs) (hsz : ∀ x, (enc x).length = size) {i j : Nat} (hi : i < xs.length) (hj : j < size) : w.cell? ⟨g, i * size + j, none⟩ = (enc xs[i])[j]? := by
  unfold RowBk at h
  rw [h.cell, List.getElem?_toArray]
  exact flat_get hsz hj xs i hi
theorem RowBk.free (h : RowBk enc w g t xs) (i : Nat) : w.frozen? ⟨g, i, none⟩ = false := Blk.free h i
theorem RowBk.set (h : RowBk enc w g t xs) (hsz : ∀ x, (enc x).length = size) {i j : Nat} (hj : j < size) {u : Value} {x' : α} (he : ∀ hi : i < xs.length, enc x' = (enc xs[i]).set j u) : RowBk enc (w.setCell ⟨g, i * size + j, none⟩ u) g t (xs.set i x') := by
  unfold RowBk at h ⊢
  have := Blk.set h (i * size + j) u
  rw [List.setIfInBounds_toArray, flat_put hsz hj u x' xs i he] at this
  exact this
theorem RowBk.ext (h : RowBk enc w g t xs) (hx : Ext w w') : RowBk enc w' g t xs := Blk.ext h hx
theorem RowBk.chg {F : Nat → Prop} (h : RowBk enc w g t xs) (hx : Chg F w w') (hF : ¬ F g) : RowBk enc w' g t xs := Blk.chg h hx hF
end
end Go.Proofs.Ytlaflbepidkmnaa
/- Stores into a row of the call's own. -/
namespace Go.Proofs.Ytlaflbepidkmnaa
open Go.RowKit
section
variable {α : Type} {enc : α → List Value} {size base g n c : Nat} {e : TypeId} {w : World} {xs : List α}
theorem OwnL.some' {v : Value} (h : OwnL enc w base e size v xs) (hne : 0 < xs.length) : ∃ g c, v = .slice (some ⟨g, 0, none⟩) xs.length c ∧ base ≤ g ∧ ∃ cs, Blk w g cs e := by
  rcases h.2 with ⟨_, hn⟩ | ⟨g, cap, cur, hv, hg, hh, _⟩
  · omega
  · exact ⟨g, cap, hv, hg, _, hh⟩
theorem OwnL.cellAt (h : OwnL enc w base e size (.slice (some ⟨g, 0, none⟩) n c) xs) (hsz : ∀ x, (enc x).length = size) {i j : Nat} (hi : i < xs.length) (hj : j < size) : w.cell? ⟨g, i * size + j, none⟩ = (enc xs[i])[j]? := by
  have hn : n = xs.length := by
    obtain ⟨_, _, e, _⟩ := h.form
    exact (Value.slice.inj e).2.1
  subst hn
  have hle : i * size + j < xs.length * size := by
    have h1 : (i + 1) * size ≤ xs.length * size := Nat.mul_le_mul_right _ hi
    rw [Nat.add_mul] at h1
    omega
  rw [World.ownsRow.cellAt h (i * size + j) hle]
  exact flat_get hsz hj xs i hi
theorem OwnL.freeAt (h : OwnL enc w base e size (.slice (some ⟨g, 0, none⟩) n c) xs) (i : Nat) : w.frozen? ⟨g, i, none⟩ = false := by
  have hn : n = xs.length := by
    obtain ⟨_, _, e, _⟩ := h.form
    exact (Value.slice.inj e).2.1
  subst hn
  exact World.ownsRow.frozenAt h i
theorem OwnL.stored (h : OwnL enc w base e size (.slice (some ⟨g, 0, none⟩) n c) xs) (hsz : ∀ x, (enc x).length = size) {i j : Nat} (hj : j < size) {u : Value} {x' : α} (he : ∀ hi : i < xs.length, enc x' = (enc xs[i]).set j u) :
    OwnL enc (w.setCell ⟨g, i * size + j, none⟩ u) base e size (.slice (some ⟨g, 0, none⟩) n c) (xs.set i x') := by
  have hn : n = xs.length := by
    obtain ⟨_, _, e, _⟩ := h.form
    exact (Value.slice.inj e).2.1
  subst hn
  have := (World.ownsRow.stored h (i * size + j) u).1
  unfold OwnL
  rw [List.length_set, ← flat_put hsz hj u x' xs i he]
  exact this
/-- the same row, told otherwise -/
theorem OwnL.recode {β : Type} {enc' : β → List Value} {v : Value} (f : α → β) (hf : ∀ x, enc' (f x) = enc x) : OwnL enc w base e size v xs ↔ OwnL enc' w base e size v (xs.map f) := by
  unfold OwnL
  rw [List.length_map, List.flatMap_map, show (fun x => enc' (f x)) = enc from funext hf]
/-- two stores into one element -/
theorem OwnL.stored2 (h : OwnL enc w base e size (.slice (some ⟨g, 0, none⟩) n c) xs) (hsz : ∀ x, (enc x).length = size) {i j k : Nat} (hj : j < size) (hk : k < size) {u u' : Value} {x' : α} (he : ∀ hi : i < xs.length, enc x' = ((enc xs[i]).set j u).set k u') :
    OwnL enc ((w.setCell ⟨g, i * size + j, none⟩ u).setCell ⟨g, i * size + k, none⟩ u') base e size (.slice (some ⟨g, 0, none⟩) n c) (xs.set i x') := by
  have hsz' : ∀ l : { l : List Value // l.length = size }, l.1.length = size := fun l => l.2
  have h1 := (OwnL.recode (enc' := fun l : { l : List Value // l.length = size } => l.1) (fun x => ⟨enc x, hsz x⟩) (fun x => rfl)).1 h
  by_cases hi : i < xs.length
  · have h2 := h1.stored hsz' (i := i) (j := j) hj (u := u) (x' := ⟨(enc xs[i]).set j u, by rw [List.length_set]; exact hsz _⟩) (fun hi' => by simp)
    have h3 := h2.stored hsz' (i := i) (j := k) hk (u := u') (x' := ⟨((enc xs[i]).set j u).set k u', by rw [List.length_set, List.length_set]; exact hsz _⟩) (fun hi' => by simp)
    refine (OwnL.recode (enc' := fun l : { l : List Value // l.length = size } => l.1) (fun x => ⟨enc x, hsz x⟩) (fun x => rfl)).2 ?_
    rw [List.set_set] at h3
    rw [List.map_set]
    have : (⟨enc x', hsz x'⟩ : { l : List Value // l.length = size }) = ⟨((enc xs[i]).set j u).set k u', by rw [List.length_set, List.length_set]; exact hsz _⟩ := Subtype.ext (he hi)
    rw [this]
    exact h3
  · have h2 := h.stored hsz (i := i) (j := j) hj (u := u) (x' := x') (fun hi' => absurd hi' hi)
    have h3 := h2.stored hsz (i := i) (j := k) hk (u := u') (x' := x') (fun hi' => absurd hi' (by rw [List.length_set]; exact hi))
    rw [List.set_set] at h3
    exact h3
end
end Go.Proofs.Ytlaflbepidkmnaa
/- Tsk1 -/
namespace Go.Proofs.Ytlaflbepidkmnaa
open Go.RowKit
set_option linter.unusedSimpArgs false
attribute [local go_sem] setCell_twice ByteArray.toList_eq str_list

/-- a task -/
structure Tsk where
  name : ByteArray
  T : Int
  D : Int
  mode : Int
  q : Int
  theta : Int
  regs : List Int
  ecb : Int
  ucb : Int

def tskV (t : Tsk) (r : Value) : Value := .agg #[.string t.name, .int .i64 t.T, .int .i64 t.D, .int .i64 t.mode, .int .i64 t.q, .int .i64 t.theta, r, .int .u64 t.ecb, .int .u64 t.ucb]
def workL (xs : List Int) : Int := xs.foldl (fun a x => wrap64 (a + x)) 0
theorem work_snoc (xs : List Int) (k : Nat) (h : k < xs.length) : workL (xs.take (k + 1)) = wrap64 (workL (xs.take k) + xs[k]) := by
  unfold workL
  rw [List.take_succ_eq_append_getElem h, List.foldl_append]
  rfl

theorem in_any (n least most : Int) (w : World) :
    Calls Try.prog 17 #[.int .i64 n, .int .i64 least, .int .i64 most] w fun e w' => e = .returned (.bool (decide (n ≥ least) && decide (n ≤ most))) ∧ w = w' := by
  go_enter Try.func17, Try.ntmps17
  by_cases h1 : n ≥ least
  · by_cases h2 : n ≤ most
    · go_wp2_with (fail)
      go_ret
      exact ⟨by simp [h1, h2], rfl⟩
    · go_wp2_with (fail)
      go_ret
      exact ⟨by simp [h1, h2], rfl⟩
  · go_wp2_with (fail)
    go_ret
    exact ⟨by simp; omega, rfl⟩
set_option maxHeartbeats 1600000 in
set_option maxRecDepth 100000 in
theorem workR_any (t : Tsk) (r : Value) (w : World) (hr : Ints w r t.regs) :
    Calls Try.prog 34 #[tskV t r] w fun e w' => e = .returned (.int .i64 (workL t.regs)) ∧ Below w.heap.size w w' := by
  obtain ⟨nm, T, D, mode, q, theta, xs, ecb, ucb⟩ := t
  unfold tskV
  dsimp only at hr ⊢
  obtain ⟨A, c, rfl, h1, h2, h3⟩ := hr
  unfold maxLen at h2
  go_enter Try.func34, Try.ntmps34
  go_wp2_with (fail)
  go_loopw [3, 4] (fun n i wr => ∃ k : Nat, k ≤ xs.length ∧ i = .int .i64 k ∧ n = .int .i64 (workL (xs.take k)) ∧ wr = w.alloc (.cells #[.string nm, .int .i64 T, .int .i64 D, .int .i64 mode, .int .i64 q, .int .i64 theta, .slice A xs.length c, .int .u64 ecb, .int .u64 ucb] 34)) (fun _ i _ => xs.length - (intOf i).toNat)
  case atStart => exact ⟨0, Nat.zero_le _, rfl, rfl, rfl⟩
  case round =>
    obtain ⟨k, hk, rfl, rfl, rfl⟩ := hrel
    by_cases hlt : k < xs.length
    · obtain ⟨b, o, rfl, hx⟩ := h3 (by intro e; rw [e] at hlt; simp at hlt)
      have hc := cell_past (hx k hlt) (.cells #[.string nm, .int .i64 T, .int .i64 D, .int .i64 mode, .int .i64 q, .int .i64 theta, .slice (some ⟨b, o, none⟩) xs.length c, .int .u64 ecb, .int .u64 ucb] 34)
      clear hx
      have hs := work_snoc xs k hlt
      generalize workL (xs.take k) = n at hs ⊢
      generalize xs[k] = x at hc hs
      have HS := Lib.hid hs; clear hs
      go_wp2_with (fail)
      exact ⟨⟨k + 1, hlt, rfl, by rw [HS.out], (by first | trivial | rfl)⟩, by simp [intOf]; omega⟩
    · obtain rfl : k = xs.length := by omega
      go_wp2_with (fail)
      go_ret
      exact ⟨by rw [List.take_length]; rfl, (by repeat (first | exact Below.refl _ _ | assumption | refine Below.drew ?_ | refine Below.alloc ?_ (by first | (simp; done) | (simp; omega) | omega) _ | refine Below.setCell ?_ (by first | (simp; done) | (simp; omega) | omega) _))⟩

/-- a task's region may be -/
def regB (x : Int) : Bool := decide (x ≥ 1) && decide (x ≤ 10000)
def regsB (xs : List Int) : Bool := decide (1 ≤ xs.length) && (decide (xs.length ≤ 8) && xs.all regB)
def modeB (t : Tsk) (p : Int) : Bool :=
  bif t.mode == 0 then (t.q == 0) && (t.theta == 0)
  else bif t.mode == 1 then (decide (t.q ≥ 0) && decide (t.q ≤ 10000)) && (t.theta == 0)
  else bif t.mode == 2 then (t.q == 0) && (decide (t.theta ≥ 0) && decide (t.theta ≤ p))
  else false
end Go.Proofs.Ytlaflbepidkmnaa
