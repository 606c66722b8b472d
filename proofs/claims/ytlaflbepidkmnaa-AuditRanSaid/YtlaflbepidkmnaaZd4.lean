/- Lemmas: Plain: who is chosen. -/
import Derived.Test.YtlaflbepidkmnaaProg
import Derived.Test.YtlaflbepidkmnaaZd3
import Init
/- KP1 -/
namespace Go.Proofs.Ytlaflbepidkmnaa

theorem minO_snoc (l : List (Option Int)) (x : Option Int) : minO (l ++ [x]) = match x with
  | none => minO l
  | some b => match minO l with
    | none => some b
    | some a => if b < a then some b else some a := by
  unfold minO
  rw [List.foldl_append]
  rfl
theorem minO_rec {P : List (Option Int) → Prop} (h0 : P []) (h1 : ∀ l x, P l → P (l ++ [x])) (l : List (Option Int)) : P l := by
  have : ∀ n (l : List (Option Int)), l.length = n → P l := by
    intro n
    induction n with
    | zero => intro l h; obtain rfl := List.length_eq_zero_iff.1 h; exact h0
    | succ n ih =>
      intro l h
      have hne : l ≠ [] := by intro e; rw [e] at h; cases h
      rw [← List.dropLast_concat_getLast hne]
      exact h1 _ _ (ih _ (by rw [List.length_dropLast, h]; rfl))
  exact this _ l rfl
theorem minO_none {l : List (Option Int)} : minO l = none ↔ ∀ x ∈ l, x = none := by
  induction l using minO_rec with
  | h0 => simp [minO]
  | h1 l x ih =>
    rw [minO_snoc]
    cases x with
    | none =>
      dsimp only
      rw [ih]
      constructor
      · intro h y hy
        rcases List.mem_append.1 hy with hy | hy
        · exact h y hy
        · exact List.mem_singleton.1 hy
      · intro h y hy; exact h y (List.mem_append_left _ hy)
    | some b =>
      have : ¬ ∀ y ∈ l ++ [some b], y = none := fun h => by have := h (some b) (by simp); cases this
      dsimp only
      constructor
      · intro h
        split at h
        · cases h
        · split at h <;> cases h
      · intro h; exact absurd h this
theorem minO_some {l : List (Option Int)} {a : Int} : minO l = some a ↔ some a ∈ l ∧ ∀ b, some b ∈ l → a ≤ b := by
  induction l using minO_rec generalizing a with
  | h0 => simp [minO]
  | h1 l x ih =>
    rw [minO_snoc]
    cases x with
    | none =>
      dsimp only
      rw [ih]
      simp
    | some b =>
      dsimp only
      cases hm : minO l with
      | none =>
        have hn := minO_none.1 hm
        dsimp only
        constructor
        · intro e
          injection e with e
          subst e
          refine ⟨by simp, fun c hc => ?_⟩
          rcases List.mem_append.1 hc with hc | hc
          · have := hn _ hc; cases this
          · have := List.mem_singleton.1 hc; injection this with this; omega
        · rintro ⟨h1, _⟩
          rcases List.mem_append.1 h1 with h | h
          · have := hn _ h; cases this
          · exact (List.mem_singleton.1 h).symm
      | some c =>
        have hc := ih.1 hm
        dsimp only
        constructor
        · intro e
          split at e
          · injection e with e
            subst e
            refine ⟨by simp, fun d hd => ?_⟩
            rcases List.mem_append.1 hd with hd | hd
            · have := hc.2 d hd; omega
            · have := List.mem_singleton.1 hd; injection this with this; omega
          · injection e with e
            subst e
            refine ⟨List.mem_append_left _ hc.1, fun d hd => ?_⟩
            rcases List.mem_append.1 hd with hd | hd
            · exact hc.2 d hd
            · have := List.mem_singleton.1 hd; injection this with this; omega
        · rintro ⟨h1, h2⟩
          have hb := h2 b (by simp)
          have hc2 := h2 c (List.mem_append_left _ hc.1)
          rcases List.mem_append.1 h1 with h | h
          · have := hc.2 a h
            have e : a = c := by omega
            subst e
            rw [if_neg (by omega)]
          · have := List.mem_singleton.1 h
            injection this with this
            subst this
            split
            · rfl
            · congr 1; omega
/-- one beats another one -/
def beats (s : TSet) (tab : List St) (i j : Nat) : Prop := rankS s tab i < rankS s tab j ∨ (rankS s tab i = rankS s tab j ∧ j ≤ i)
theorem best_spec (s : TSet) (tab : List St) : ∀ n, (bestS s tab n = -1 ∧ ∀ j, j < n → (stAt tab j).pend = false) ∨
    ∃ m : Nat, bestS s tab n = m ∧ m < n ∧ (stAt tab m).pend = true ∧ ∀ j, j < n → (stAt tab j).pend = true → beats s tab m j
  | 0 => .inl ⟨rfl, fun j h => absurd h (Nat.not_lt_zero j)⟩
  | n + 1 => by
    have e : bestS s tab (n + 1) = if (stAt tab n).pend = true ∧ (bestS s tab n = -1 ∨ rankS s tab n ≤ rankS s tab (bestS s tab n).toNat) then (n : Int) else bestS s tab n := by
      unfold bestS
      rw [List.range_succ, List.foldl_append]
      rfl
    rw [e]
    rcases best_spec s tab n with ⟨h1, h2⟩ | ⟨m, h1, h2, h3, h4⟩
    · by_cases hp : (stAt tab n).pend = true
      · rw [if_pos ⟨hp, .inl h1⟩]
        refine .inr ⟨n, rfl, Nat.lt_succ_self n, hp, fun j hj hjp => ?_⟩
        rcases Nat.lt_or_ge j n with h | h
        · rw [h2 j h] at hjp; cases hjp
        · obtain rfl : j = n := by omega
          exact .inr ⟨rfl, Nat.le_refl _⟩
      · rw [if_neg (fun h => hp h.1)]
        refine .inl ⟨h1, fun j hj => ?_⟩
        rcases Nat.lt_or_ge j n with h | h
        · exact h2 j h
        · obtain rfl : j = n := by omega
          simpa using hp
    · rw [h1]
      by_cases hc : (stAt tab n).pend = true ∧ ((m : Int) = -1 ∨ rankS s tab n ≤ rankS s tab (m : Int).toNat)
      · rw [if_pos hc]
        have hr : rankS s tab n ≤ rankS s tab m := by
          rcases hc.2 with h | h
          · omega
          · exact h
        refine .inr ⟨n, rfl, Nat.lt_succ_self n, hc.1, fun j hj hjp => ?_⟩
        rcases Nat.lt_or_ge j n with h | h
        · unfold beats
          have := h4 j h hjp
          unfold beats at this
          omega
        · obtain rfl : j = n := by omega
          exact .inr ⟨rfl, Nat.le_refl _⟩
      · rw [if_neg hc]
        refine .inr ⟨m, rfl, by omega, h3, fun j hj hjp => ?_⟩
        rcases Nat.lt_or_ge j n with h | h
        · exact h4 j h hjp
        · obtain rfl : j = n := by omega
          left
          have : ¬ rankS s tab j ≤ rankS s tab m := fun h => hc ⟨hjp, .inr h⟩
          omega
theorem best_eq {s : TSet} {tab : List St} {n m : Nat} (hm : m < n) (hp : (stAt tab m).pend = true) (hb : ∀ j, j < n → (stAt tab j).pend = true → beats s tab m j) : bestS s tab n = m := by
  rcases best_spec s tab n with ⟨_, h2⟩ | ⟨m', h1, h2, h3, h4⟩
  · rw [h2 m hm] at hp; cases hp
  · rw [h1]
    have a := hb m' h2 h3
    have b := h4 m hm hp
    unfold beats at a b
    have : m = m' := by omega
    rw [this]
theorem choose_spec (s : TSet) (tab : List St) (last t : Int) :
    (heldS s tab last t = true ∧ chooseS s tab last t = last) ∨ (heldS s tab last t = false ∧ chooseS s tab last t = -1 ∧ ∀ j, j < tab.length → (stAt tab j).pend = false) ∨
    (heldS s tab last t = false ∧ ∃ m : Nat, chooseS s tab last t = m ∧ m < tab.length ∧ (stAt tab m).pend = true ∧ ∀ j, j < tab.length → (stAt tab j).pend = true → beats s tab m j) := by
  unfold chooseS
  cases h : heldS s tab last t with
  | true => exact .inl ⟨rfl, by simp⟩
  | false =>
    right
    rcases best_spec s tab tab.length with ⟨h1, h2⟩ | ⟨m, h1, h2⟩
    · exact .inl ⟨rfl, by simpa using h1, h2⟩
    · exact .inr ⟨rfl, m, by simpa using h1, h2⟩
theorem stAt_set {tab : List St} {i j : Nat} {x : St} (hi : i < tab.length) : stAt (tab.set i x) j = if i = j then x else stAt tab j := by
  unfold stAt
  simp only [List.getD, List.getElem?_set]
  split
  · rename_i e; subst e; simp
  · rfl
theorem stAt_out {tab : List St} {i : Nat} (hi : tab.length ≤ i) : stAt tab i = St.zero := by
  unfold stAt
  simp [List.getD, List.getElem?_eq_none hi]
theorem getD_set {α : Type} {l : List α} {i j : Nat} {x d : α} (hi : i < l.length) : (l.set i x).getD j d = if i = j then x else l.getD j d := by
  simp only [List.getD, List.getElem?_set]
  split
  · rename_i e; subst e; simp
  · rfl
end Go.Proofs.Ytlaflbepidkmnaa
/- Plain: logs of events. -/
namespace Go.Proofs.Ytlaflbepidkmnaa

/-- a set as it may be -/
structure KH (s : TSet) : Prop where
  len : 1 ≤ s.tasks.length ∧ s.tasks.length ≤ 8
  reload : 0 ≤ s.reload ∧ s.reload ≤ 10000
  regs : ∀ i, i < s.tasks.length → 1 ≤ (s.tk i).regs.length ∧ (s.tk i).regs.length ≤ 8 ∧ ∀ r ∈ (s.tk i).regs, 1 ≤ r ∧ r ≤ 10000
  T : ∀ i, i < s.tasks.length → 1 ≤ (s.tk i).D ∧ (s.tk i).D ≤ (s.tk i).T ∧ (s.tk i).T ≤ 10000
  mode : ∀ i, i < s.tasks.length → (s.tk i).mode = 0 ∨ ((s.tk i).mode = 1 ∧ 0 ≤ (s.tk i).q ∧ (s.tk i).q ≤ 10000) ∨ ((s.tk i).mode = 2 ∧ 0 ≤ (s.tk i).theta ∧ (s.tk i).theta ≤ i)
  bits : ∀ i, i < s.tasks.length → (s.tk i).ucb.toNat < 2 ^ 64 ∧ (s.tk i).ecb.toNat < 2 ^ 64
/-- a job that goes on -/
structure JOk (rs : List Int) (j : Jb) : Prop where
  r : j.r = rs
  dlen : j.d.length = rs.length
  dpos : ∀ x ∈ j.d, 1 ≤ x
  how : j.how = 0
  k : j.k < rs.length
  n : 0 ≤ j.n ∧ j.n < rs.getD j.k 0 ∧ j.n < j.d.getD j.k 0
theorem getD_mem {l : List Int} {k : Nat} (h : k < l.length) (d : Int) : l.getD k d ∈ l := by
  simp only [List.getD, List.getElem?_eq_getElem h, Option.getD_some]
  exact List.getElem_mem h
theorem JOk.new {r : List Int} (d : List Int) (h : 1 ≤ r.length) (hr : ∀ x ∈ r, 1 ≤ x) : JOk r (newJ r d) := by
  have hd : ∀ x ∈ (newJ r d).d, 1 ≤ x := by
    intro x hx
    obtain ⟨i, _, rfl⟩ := List.mem_map.1 hx
    unfold demL
    omega
  have hl : (newJ r d).d.length = r.length := by simp [newJ]
  refine ⟨rfl, hl, hd, rfl, h, ?_⟩
  have h1 := hr _ (getD_mem (l := r) (k := 0) h 0)
  have h2 := hd _ (getD_mem (l := (newJ r d).d) (k := 0) (by omega) 0)
  show (0 : Int) ≤ 0 ∧ 0 < r.getD 0 0 ∧ 0 < (newJ r d).d.getD 0 0
  omega
theorem JOk.step {r : List Int} {j : Jb} (h : JOk r j) (hr : ∀ x ∈ r, 1 ≤ x) :
    (j.step.2.2 = 0 ∧ j.step.2.1 = j.k ∧ JOk r j.step.1 ∧ j.step.1.k = j.k ∧ j.step.1.n = j.n + 1) ∨ (j.step.2.2 = 1 ∧ j.step.2.1 = j.k ∧ JOk r j.step.1 ∧ j.step.1.k = j.k + 1 ∧ j.step.1.n = 0) ∨
    (j.step.2.2 = 2 ∧ j.step.2.1 = j.k) ∨ (j.step.2.2 = 3 ∧ j.step.2.1 = j.k) := by
  obtain ⟨h1, h2, h3, h4, h5, h6⟩ := h
  unfold Jb.step
  rw [if_neg (by omega)]
  by_cases c1 : j.n + 1 = j.d.getD j.k 0
  · rw [if_pos c1]
    by_cases c2 : j.k + 1 = j.r.length
    · rw [if_pos c2]; exact .inr (.inr (.inl ⟨rfl, rfl⟩))
    · rw [if_neg c2]
      refine .inr (.inl ⟨rfl, rfl, ?_, rfl, rfl⟩)
      have hk : j.k + 1 < r.length := by rw [h1] at c2; omega
      have a := hr _ (getD_mem (l := r) hk 0)
      have b := h3 _ (getD_mem (l := j.d) (k := j.k + 1) (by omega) 0)
      exact ⟨h1, h2, h3, h4, hk, by show (0 : Int) ≤ 0 ∧ 0 < r.getD (j.k + 1) 0 ∧ 0 < j.d.getD (j.k + 1) 0; omega⟩
  · rw [if_neg c1]
    by_cases c2 : j.n + 1 = j.r.getD j.k 0
    · rw [if_pos c2]; exact .inr (.inr (.inr ⟨rfl, rfl⟩))
    · rw [if_neg c2]
      rw [h1] at c2
      refine .inl ⟨rfl, rfl, ⟨h1, h2, h3, h4, h5, ?_⟩, rfl, rfl⟩
      show 0 ≤ j.n + 1 ∧ j.n + 1 < r.getD j.k 0 ∧ j.n + 1 < j.d.getD j.k 0
      omega
/-- when the job of a task that is pending was let in -/
def sinceL (L : List Ev) (i : Int) : Option Int :=
  L.foldl (fun o e => if e.task = i then (if e.kind = 1 then some e.tick else if e.kind = 8 ∨ e.kind = 9 then none else o) else o) none
/-- a task's last event, Late and Refuse aside -/
def lastL (L : List Ev) (i : Int) : Int := L.foldl (fun o e => if e.task = i ∧ e.kind ≠ 2 ∧ e.kind ≠ 3 then e.kind else o) 0
def onceS (a : Int) (kind : Int) : Int :=
  if kind = 1 then (if a = 0 then 1 else -9) else if kind = 4 then (if a = 1 then 2 else -9) else if kind = 5 then (if a = 2 then 3 else -9) else if kind = 6 then (if a = 3 then 2 else -9)
  else if kind = 8 ∨ kind = 9 then (if a = 2 then 0 else -9) else a
def onceL (L : List Ev) (i : Int) : Int := L.foldl (fun a e => if e.task = i then onceS a e.kind else a) 0
theorem since_snoc (L : List Ev) (e : Ev) (i : Int) : sinceL (L ++ [e]) i = if e.task = i then (if e.kind = 1 then some e.tick else if e.kind = 8 ∨ e.kind = 9 then none else sinceL L i) else sinceL L i := by
  unfold sinceL; rw [List.foldl_append]; rfl
theorem last_snoc (L : List Ev) (e : Ev) (i : Int) : lastL (L ++ [e]) i = if e.task = i ∧ e.kind ≠ 2 ∧ e.kind ≠ 3 then e.kind else lastL L i := by
  unfold lastL; rw [List.foldl_append]; rfl
theorem once_snoc (L : List Ev) (e : Ev) (i : Int) : onceL (L ++ [e]) i = if e.task = i then onceS (onceL L i) e.kind else onceL L i := by
  unfold onceL; rw [List.foldl_append]; rfl
/-- the oldest job of those ahead, by the events -/
def oldE (L : List Ev) (i : Nat) : Option Int := minO ((List.range i).map fun (j : Nat) => sinceL L j)
def okE (s : TSet) (pre : List Ev) (e : Ev) (post : List Ev) : Prop :=
  0 ≤ e.task ∧ e.task < s.tasks.length ∧
    (if (s.tk e.task.toNat).mode = 0 then lastL pre e.task = 7
     else if (s.tk e.task.toNat).mode = 1 then ∃ a, oldE pre e.task.toNat = some a ∧ a + (s.tk e.task.toNat).q = e.tick
     else ∃ x ∈ post, x.tick = e.tick ∧ (x.kind = 4 ∨ x.kind = 6) ∧ x.task < (s.tk e.task.toNat).theta)
def FairLog (s : TSet) (L : List Ev) : Prop := ∀ pre e post, L = pre ++ e :: post → e.kind = 5 → okE s pre e post
theorem okE_more {s : TSet} {pre : List Ev} {e : Ev} {post : List Ev} (h : okE s pre e post) (x : Ev) : okE s pre e (post ++ [x]) := by
  obtain ⟨h1, h2, h3⟩ := h
  refine ⟨h1, h2, ?_⟩
  by_cases m0 : (s.tk e.task.toNat).mode = 0
  · rw [if_pos m0] at h3 ⊢; exact h3
  · rw [if_neg m0] at h3 ⊢
    by_cases m1 : (s.tk e.task.toNat).mode = 1
    · rw [if_pos m1] at h3 ⊢; exact h3
    · rw [if_neg m1] at h3 ⊢
      obtain ⟨y, hy, h4⟩ := h3
      exact ⟨y, List.mem_append_left _ hy, h4⟩
theorem snoc_split {L pre post : List Ev} {e e' : Ev} (h : L ++ [e] = pre ++ e' :: post) : (post = [] ∧ L = pre ∧ e = e') ∨ ∃ post', post = post' ++ [e] ∧ L = pre ++ e' :: post' := by
  rcases List.eq_nil_or_concat post with rfl | ⟨q, x, rfl⟩
  · have := List.append_inj' h rfl
    refine .inl ⟨rfl, this.1, ?_⟩
    have := this.2
    injection this
  · rw [List.concat_eq_append] at h ⊢
    have h2 : L ++ [e] = (pre ++ e' :: q) ++ [x] := by rw [h]; simp
    have := List.append_inj' h2 rfl
    refine .inr ⟨q, ?_, this.1⟩
    have := this.2
    injection this with h3 h4
    rw [h3]
theorem FairLog.snoc {s : TSet} {L : List Ev} (h : FairLog s L) {e : Ev} (he : e.kind ≠ 5) : FairLog s (L ++ [e]) := by
  intro pre e' post hs hk
  rcases snoc_split hs with ⟨rfl, rfl, rfl⟩ | ⟨post', rfl, rfl⟩
  · exact absurd hk he
  · exact okE_more (h pre e' post' rfl hk) e
theorem FairLog.pair {s : TSet} {L : List Ev} (h : FairLog s L) {e e2 : Ev} (ho : okE s L e [e2]) (he : e2.kind ≠ 5) : FairLog s (L ++ [e] ++ [e2]) := by
  intro pre e' post hs hk
  rcases snoc_split hs with ⟨rfl, rfl, rfl⟩ | ⟨post', rfl, hs2⟩
  · exact absurd hk he
  · rcases snoc_split hs2 with ⟨rfl, rfl, rfl⟩ | ⟨post2, rfl, rfl⟩
    · exact ho
    · exact okE_more (okE_more (h pre e' post2 rfl hk) e) e2
theorem FairLog.nil (s : TSet) : FairLog s [] := by
  intro pre e post hs
  have := congrArg List.length hs
  simp at this
end Go.Proofs.Ytlaflbepidkmnaa
/- Plain: what holds of a kernel, whatever comes: lets in. -/
namespace Go.Proofs.Ytlaflbepidkmnaa

def okEv (n : Nat) (e : Ev) : Prop := (e.kind = 10 ∧ e.task = -1) ∨ ((1 ≤ e.kind ∧ e.kind ≤ 9) ∧ 0 ≤ e.task ∧ e.task < n)
def onceOf (x : St) (c : Bool) : Int := if x.pend = false then 0 else if x.start = false then 1 else if c = true then 2 else 3
structure LInv (s : TSet) (P : List Ev) (k : KS) (cur : Int) : Prop where
  lj : k.jobs.length = s.tasks.length
  lt : k.tab.length = s.tasks.length
  lh : k.had.length = s.tasks.length
  ll : k.load.length = s.tasks.length
  lo : k.own.length = 64
  lp : k.pol.length = s.tasks.length
  t : 0 ≤ k.t
  zero : ∀ i, i < s.tasks.length → (stAt k.tab i).pend = false → stAt k.tab i = St.zero
  arr : ∀ i, i < s.tasks.length → (stAt k.tab i).pend = true → 0 ≤ (stAt k.tab i).arr ∧ (stAt k.tab i).arr ≤ k.t ∧ k.pol.getD i (-1) = (stAt k.tab i).arr
  job : ∀ i, i < s.tasks.length → (stAt k.tab i).pend = true → JOk (s.tk i).regs (k.jobs.getD i Jb.zero)
  fresh : ∀ i, i < s.tasks.length → (stAt k.tab i).pend = true → (stAt k.tab i).start = false → (k.jobs.getD i Jb.zero).k = 0 ∧ (k.jobs.getD i Jb.zero).n = 0 ∧ (stAt k.tab i).mid = false
  pol : ∀ i, i < s.tasks.length → k.pol.getD i (-1) = -1 ∨ (0 ≤ k.pol.getD i (-1) ∧ k.pol.getD i (-1) ≤ k.t)
  had : ∀ i, i < s.tasks.length → k.had.getD i 0 &&& (s.tk i).ucb.toNat = k.had.getD i 0
  load : ∀ i, i < s.tasks.length → 0 ≤ k.load.getD i 0 ∧ k.load.getD i 0 ≤ s.reload * popK (s.tk i).ucb.toNat
  own : ∀ o ∈ k.own, 0 ≤ o ∧ o ≤ 8
  curs : cur = -1 ∨ (0 ≤ cur ∧ cur < s.tasks.length ∧ (stAt k.tab cur.toNat).pend = true ∧ (stAt k.tab cur.toNat).start = true)
  since : ∀ i : Nat, i < s.tasks.length → sinceL (P ++ k.evs) i = (stAt k.tab i).was
  once : ∀ i : Nat, i < s.tasks.length → onceL (P ++ k.evs) i = onceOf (stAt k.tab i) (decide (cur = (i : Int)))
  ok : ∀ e ∈ P ++ k.evs, okEv s.tasks.length e
  evt : ∀ e ∈ k.evs, e.tick = k.t
  past : ∀ e ∈ P, 0 ≤ e.tick ∧ e.tick < k.t
  sorted : P.Pairwise fun a b => a.tick ≤ b.tick
  res : ∀ e ∈ P ++ k.evs, e.kind = 6 → 0 ≤ e.n ∧ e.n ≤ s.reload * popK (s.tk e.task.toNat).ucb.toNat
theorem log_tell (P : List Ev) (k : KS) (a b c : Int) : P ++ (k.tell a b c).evs = (P ++ k.evs) ++ [⟨k.t, a, b, c⟩] := by
  simp [KS.tell]
theorem mem_snoc {α : Type} {l : List α} {x y : α} (h : y ∈ l ++ [x]) : y ∈ l ∨ y = x := by
  rcases List.mem_append.1 h with h | h
  · exact .inl h
  · exact .inr (List.mem_singleton.1 h)
/-- an event that changes no state -/
theorem LInv.tell {s : TSet} {P : List Ev} {k : KS} {cur : Int} (h : LInv s P k cur) {a b c : Int} (ha : a = 2 ∨ a = 3 ∨ a = 7 ∨ a = 10) (ho : okEv s.tasks.length ⟨k.t, a, b, c⟩) : LInv s P (k.tell a b c) cur := by
  have e1 : ∀ i, sinceL (P ++ (k.tell a b c).evs) i = sinceL (P ++ k.evs) i := fun i => by
    rw [log_tell, since_snoc]
    dsimp only
    split
    · rw [if_neg (by omega), if_neg (by omega)]
    · rfl
  have e2 : ∀ i, onceL (P ++ (k.tell a b c).evs) i = onceL (P ++ k.evs) i := fun i => by
    rw [log_tell, once_snoc]
    dsimp only
    split
    · unfold onceS; rw [if_neg (by omega), if_neg (by omega), if_neg (by omega), if_neg (by omega), if_neg (by omega)]
    · rfl
  exact { h with
    since := fun i hi => (e1 i).trans (h.since i hi)
    once := fun i hi => (e2 i).trans (h.once i hi)
    ok := fun e he => by
      rw [log_tell] at he
      rcases mem_snoc he with he | rfl
      · exact h.ok e he
      · exact ho
    evt := fun e he => by
      rcases mem_snoc (show e ∈ k.evs ++ [⟨k.t, a, b, c⟩] from he) with he | rfl
      · exact h.evt e he
      · rfl
    res := fun e he h6 => by
      rw [log_tell] at he
      rcases mem_snoc he with he | rfl
      · exact h.res e he h6
      · dsimp only at h6; omega }
/-- between two ticks, and while tasks come -/
structure Betw (s : TSet) (P : List Ev) (k : KS) (m : Nat) : Prop where
  reg : (stAt k.tab m).mid = false → lastL (P ++ k.evs) m = 7
  flt : (s.tk m).mode = 1 → (∃ a, oldS (k.tab.take m) = some a ∧ k.t ≤ a + (s.tk m).q) ∨ (oldS (k.tab.take m) = none ∧ ∀ j, j < s.tasks.length → (stAt k.tab j).pend = true → beats s k.tab m j)
  thr : (s.tk m).mode = 2 → ∀ j, j < s.tasks.length → (stAt k.tab j).pend = true → beats s k.tab m j ∨ ((stAt k.tab j).start = false ∧ (j : Int) < (s.tk m).theta)
structure LB (s : TSet) (P : List Ev) (k : KS) : Prop where
  inv : LInv s P k k.last
  betw : ∀ m : Nat, k.last = m → Betw s P k m
  fair : FairLog s (P ++ k.evs)
theorem LB.tell {s : TSet} {P : List Ev} {k : KS} (h : LB s P k) {a b c : Int} (ha : a = 2 ∨ a = 3) (ho : okEv s.tasks.length ⟨k.t, a, b, c⟩) : LB s P (k.tell a b c) := by
  refine ⟨h.1.tell (by omega) ho, fun m hm => ?_, by rw [log_tell]; exact h.fair.snoc (by dsimp only; omega)⟩
  have hb := h.2 m hm
  refine ⟨fun hmid => ?_, hb.flt, hb.thr⟩
  rw [log_tell, last_snoc]
  dsimp only
  rw [if_neg (by omega)]
  exact hb.reg hmid
theorem okEv_task {n : Nat} {t a b c : Int} (ha : 1 ≤ a ∧ a ≤ 9) (hb : 0 ≤ b ∧ b < n) : okEv n ⟨t, a, b, c⟩ := .inr ⟨ha, hb⟩
theorem fold_range {α : Type} (Q : α → Prop) (f : α → Nat → α) (n : Nat) (a : α) (h0 : Q a) (h : ∀ a i, i < n → Q a → Q (f a i)) : Q ((List.range n).foldl f a) := by
  have : ∀ m, m ≤ n → Q ((List.range m).foldl f a) := by
    intro m
    induction m with
    | zero => intro _; exact h0
    | succ m ih =>
      intro hm
      rw [List.range_succ, List.foldl_append]
      exact h _ m (by omega) (ih (by omega))
  exact this n (Nat.le_refl n)
theorem LB.late {s : TSet} {P : List Ev} {k : KS} (h : LB s P k) : LB s P (lateK s k) := by
  unfold lateK
  refine fold_range (LB s P) (late1 s) _ k h fun k i hi h => ?_
  unfold late1
  split
  · exact h.tell (.inr rfl) (okEv_task (by omega) (by omega))
  · exact h
theorem St.was_zero : St.zero.was = none := rfl
/-- a task is let in -/
theorem LInv.admit {s : TSet} (hs : KH s) {P : List Ev} {k : KS} {cur : Int} (h : LInv s P k cur) (x : Inp) {i : Nat} (hi : i < s.tasks.length) (hp : (stAt k.tab i).pend = false) : LInv s P (admitK s x k i) cur := by
  have hlt := h.lt
  have hlj := h.lj
  have hlp := h.lp
  have hci : cur ≠ i := by
    rintro rfl
    rcases h.curs with hc | ⟨_, _, hc, _⟩
    · omega
    · rw [Int.toNat_natCast, hp] at hc; cases hc
  have ht : ∀ j, stAt (admitK s x k i).tab j = if i = j then ⟨true, false, false, k.t⟩ else stAt k.tab j := fun j => stAt_set (by omega)
  have hj : ∀ j, (admitK s x k i).jobs.getD j Jb.zero = if i = j then newJ (s.tk i).regs (x.dems.getD i []) else k.jobs.getD j Jb.zero := fun j => getD_set (by omega)
  have hq : ∀ j, (admitK s x k i).pol.getD j (-1) = if i = j then k.t else k.pol.getD j (-1) := fun j => getD_set (by omega)
  have ht0 := h.t
  have hlog : P ++ (admitK s x k i).evs = (P ++ k.evs) ++ [⟨k.t, 1, i, 0⟩] := log_tell P _ 1 i 0
  have hct : ∀ j, stAt (admitK s x k i).tab j = stAt k.tab j ∨ j = i := fun j => by
    rw [ht]; split
    · rename_i e; exact .inr e.symm
    · exact .inl rfl
  refine ⟨by simpa [admitK, KS.tell] using h.lj, by simpa [admitK, KS.tell] using h.lt, h.lh, h.ll, h.lo, by simpa [admitK, KS.tell] using h.lp, h.t, ?_, ?_, ?_, ?_, ?_, h.had, h.load, h.own, ?_, ?_, ?_, ?_, ?_, h.past, h.sorted, ?_⟩
  · intro j hj2 hpj
    rw [ht] at hpj ⊢
    split at hpj
    · cases hpj
    · rename_i e; rw [if_neg e]; exact h.zero j hj2 hpj
  · intro j hj2 hpj
    show 0 ≤ _ ∧ _ ≤ k.t ∧ _
    rw [ht] at hpj ⊢
    rw [hq]
    split
    · exact ⟨ht0, Int.le_refl _, rfl⟩
    · rename_i e; rw [if_neg e] at hpj; exact h.arr j hj2 hpj
  · intro j hj2 hpj
    rw [ht] at hpj
    rw [hj]
    split
    · rename_i e; subst e
      have := hs.regs i hi
      exact JOk.new _ this.1 (fun x hx => (this.2.2 x hx).1)
    · rename_i e; rw [if_neg e] at hpj; exact h.job j hj2 hpj
  · intro j hj2 hpj hsj
    rw [ht] at hpj hsj ⊢
    rw [hj]
    split
    · exact ⟨rfl, rfl, rfl⟩
    · rename_i e; rw [if_neg e] at hpj hsj; exact h.fresh j hj2 hpj hsj
  · intro j hj2
    show _ ∨ (_ ∧ _ ≤ k.t)
    rw [hq]
    split
    · exact .inr ⟨ht0, Int.le_refl _⟩
    · exact h.pol j hj2
  · rcases h.curs with hc | ⟨h1, h2, h3, h4⟩
    · exact .inl hc
    · refine .inr ⟨h1, h2, ?_⟩
      rw [ht, if_neg (by omega)]
      exact ⟨h3, h4⟩
  · intro j hj2
    rw [hlog, since_snoc, ht]
    dsimp only
    by_cases e : i = j
    · subst e; simp [St.was]
    · rw [if_neg (by omega), if_neg e]; exact h.since j hj2
  · intro j hj2
    rw [hlog, once_snoc, ht]
    dsimp only
    by_cases e : i = j
    · subst e
      rw [if_pos rfl, if_pos rfl, h.once i hi]
      unfold onceOf onceS
      rw [hp]
      simp
    · rw [if_neg (by omega), if_neg e]; exact h.once j hj2
  · intro e he
    rw [hlog] at he
    rcases mem_snoc he with he | rfl
    · exact h.ok e he
    · exact okEv_task (by omega) (by omega)
  · intro e he
    rcases mem_snoc (show e ∈ k.evs ++ [⟨k.t, 1, i, 0⟩] from he) with he | rfl
    · exact h.evt e he
    · rfl
  · intro e he h6
    rw [hlog] at he
    rcases mem_snoc he with he | rfl
    · exact h.res e he h6
    · dsimp only at h6; omega
theorem rank_same {s : TSet} {tab tab' : List St} {j : Nat} (h : (stAt tab' j).pend = (stAt tab j).pend) (h2 : (stAt tab' j).start = (stAt tab j).start) : rankS s tab' j = rankS s tab j := by
  unfold rankS; rw [h, h2]
theorem tab_take_mem {tab : List St} {m : Nat} (hm : m ≤ tab.length) {o : Option Int} : o ∈ (tab.take m).map St.was ↔ ∃ j, j < m ∧ o = (stAt tab j).was := by
  constructor
  · intro h
    obtain ⟨x, hx, rfl⟩ := List.mem_map.1 h
    obtain ⟨j, hj, rfl⟩ := List.mem_iff_getElem.1 hx
    rw [List.length_take] at hj
    refine ⟨j, by omega, ?_⟩
    rw [List.getElem_take]
    unfold stAt
    simp [List.getD, List.getElem?_eq_getElem (show j < tab.length by omega)]
  · rintro ⟨j, hj, rfl⟩
    refine List.mem_map.2 ⟨stAt tab j, ?_, rfl⟩
    have hjl : j < tab.length := by omega
    have : stAt tab j = (tab.take m)[j]'(by rw [List.length_take]; omega) := by
      rw [List.getElem_take]
      unfold stAt
      simp [List.getD, List.getElem?_eq_getElem hjl]
    rw [this]
    exact List.getElem_mem _
theorem old_some {tab : List St} {m : Nat} (hm : m ≤ tab.length) {a : Int} : oldS (tab.take m) = some a ↔ (∃ j, j < m ∧ (stAt tab j).was = some a) ∧ ∀ j b, j < m → (stAt tab j).was = some b → a ≤ b := by
  unfold oldS
  rw [minO_some, tab_take_mem hm]
  constructor
  · rintro ⟨⟨j, hj, e⟩, h⟩
    exact ⟨⟨j, hj, e.symm⟩, fun i b hi hb => h b ((tab_take_mem hm).2 ⟨i, hi, hb.symm⟩)⟩
  · rintro ⟨⟨j, hj, e⟩, h⟩
    refine ⟨⟨j, hj, e.symm⟩, fun b hb => ?_⟩
    obtain ⟨i, hi, e2⟩ := (tab_take_mem hm).1 hb
    exact h i b hi e2.symm
theorem old_none {tab : List St} {m : Nat} (hm : m ≤ tab.length) : oldS (tab.take m) = none ↔ ∀ j, j < m → (stAt tab j).was = none := by
  unfold oldS
  rw [minO_none]
  constructor
  · intro h j hj
    exact h _ ((tab_take_mem hm).2 ⟨j, hj, rfl⟩)
  · intro h x hx
    obtain ⟨j, hj, rfl⟩ := (tab_take_mem hm).1 hx
    exact h j hj
theorem was_pend {x : St} {a : Int} (h : x.was = some a) : x.pend = true ∧ x.arr = a := by
  unfold St.was at h
  split at h
  · rename_i hp; injection h with h; exact ⟨hp, h⟩
  · cases h
theorem was_of {x : St} (h : x.pend = true) : x.was = some x.arr := by unfold St.was; rw [if_pos h]
theorem was_none {x : St} : x.was = none ↔ x.pend = false := by
  unfold St.was
  cases x.pend <;> simp
theorem LB.admit {s : TSet} (hs : KH s) {P : List Ev} {k : KS} (h : LB s P k) (x : Inp) {i : Nat} (hi : i < s.tasks.length) (hp : (stAt k.tab i).pend = false) : LB s P (admitK s x k i) := by
  refine ⟨h.1.admit hs x hi hp, fun m hm => ?_, by rw [show P ++ (admitK s x k i).evs = (P ++ k.evs) ++ [⟨k.t, 1, i, 0⟩] from log_tell P _ 1 i 0]; exact h.fair.snoc (by dsimp only; omega)⟩
  have hb := h.2 m hm
  have hlt := h.1.lt
  have ht : ∀ j, stAt (admitK s x k i).tab j = if i = j then ⟨true, false, false, k.t⟩ else stAt k.tab j := fun j => stAt_set (by omega)
  have hlog : P ++ (admitK s x k i).evs = (P ++ k.evs) ++ [⟨k.t, 1, i, 0⟩] := log_tell P _ 1 i 0
  have hlt2 : (admitK s x k i).tab.length = s.tasks.length := by simpa [admitK, KS.tell] using hlt
  have hmn : m < s.tasks.length ∧ (stAt k.tab m).pend = true ∧ (stAt k.tab m).start = true := by
    have hm' : k.last = m := hm
    rcases h.1.curs with hc | ⟨_, h2, h3, h4⟩
    · omega
    · rw [hm'] at h2 h3 h4; exact ⟨by omega, h3, h4⟩
  have hmi : i ≠ m := by rintro rfl; rw [hp] at hmn; cases hmn.2.1
  have hr : ∀ j, i ≠ j → rankS s (admitK s x k i).tab j = rankS s k.tab j := fun j hj => by
    refine rank_same ?_ ?_ <;> rw [ht, if_neg hj]
  have hri : rankS s (admitK s x k i).tab i = i := by
    unfold rankS
    rw [ht, if_pos rfl]
    simp
  refine ⟨fun hmid => ?_, fun hf => ?_, fun hth => ?_⟩
  · rw [ht, if_neg hmi] at hmid
    rw [hlog, last_snoc]
    dsimp only
    rw [if_neg (by omega)]
    exact hb.reg hmid
  · show (∃ a, _ ∧ k.t ≤ _) ∨ _
    rcases hb.flt hf with ⟨a, h1, h2⟩ | ⟨h1, h2⟩
    · left
      refine ⟨a, ?_, h2⟩
      obtain ⟨⟨j, hj, e⟩, h4⟩ := (old_some (by omega)).1 h1
      have hij : i ≠ j := by rintro rfl; have := (was_pend e).1; rw [hp] at this; cases this
      refine (old_some (by omega)).2 ⟨⟨j, hj, by rw [ht, if_neg hij]; exact e⟩, fun j2 b hj2 hb2 => ?_⟩
      rw [ht] at hb2
      split at hb2
      · have h5 : k.t = b := (was_pend hb2).2
        have h6 := h.1.arr j (by omega) (was_pend e).1
        rw [(was_pend e).2] at h6
        omega
      · exact h4 j2 b hj2 hb2
    · by_cases him : i < m
      · left
        refine ⟨k.t, (old_some (by omega)).2 ⟨⟨i, him, by rw [ht, if_pos rfl]; rfl⟩, fun j2 b hj2 hb2 => ?_⟩, ?_⟩
        · rw [ht] at hb2
          split at hb2
          · have h5 : k.t = b := (was_pend hb2).2
            omega
          · have := (old_none (by omega)).1 h1 j2 hj2
            rw [this] at hb2
            cases hb2
        · have := hs.mode m hmn.1
          omega
      · right
        refine ⟨(old_none (by omega)).2 fun j hj => ?_, fun j hj hpj => ?_⟩
        · rw [ht, if_neg (by omega)]
          exact (old_none (by omega)).1 h1 j hj
        · by_cases e : i = j
          · subst e
            left
            rw [hri, hr m hmi]
            unfold rankS
            rw [hmn.2.1, if_pos rfl, if_neg (by omega)]
            omega
          · rw [ht, if_neg e] at hpj
            have := h2 j hj hpj
            unfold beats at this ⊢
            rw [hr m hmi, hr j e]
            exact this
  · intro j hj hpj
    by_cases e : i = j
    · subst e
      have hmode := hs.mode m hmn.1
      have hrm : rankS s (admitK s x k i).tab m = (s.tk m).theta := by
        rw [hr m hmi]
        unfold rankS
        rw [hmn.2.1, if_pos rfl, if_pos ⟨hth, hmn.2.2⟩]
      rcases Int.lt_or_le i (s.tk m).theta with hlt3 | hge
      · exact .inr ⟨by rw [ht, if_pos rfl], hlt3⟩
      · left
        unfold beats
        rw [hrm, hri]
        omega
    · rw [ht, if_neg e] at hpj
      have := hb.thr hth j hj hpj
      rw [ht, if_neg e]
      unfold beats at this ⊢
      rw [hr m hmi, hr j e]
      exact this
theorem LB.arrive {s : TSet} (hs : KH s) {P : List Ev} {k : KS} (h : LB s P k) (x : Inp) : LB s P (arriveK s x k) := by
  unfold arriveK
  refine fold_range (LB s P) (arrive1 s x) _ k h fun k i hi h => ?_
  unfold arrive1
  split
  · exact h
  · split
    · exact h.tell (.inl rfl) (okEv_task (by omega) (by omega))
    · split
      · exact h.tell (.inl rfl) (okEv_task (by omega) (by omega))
      · rename_i hp
        exact h.admit hs x hi (by simpa using hp)
end Go.Proofs.Ytlaflbepidkmnaa
/- Plain: what holds of a kernel, whatever comes: who runs. -/
namespace Go.Proofs.Ytlaflbepidkmnaa

theorem popK_le {a b : Nat} (h : a &&& b = a) : popK a ≤ popK b := by
  unfold popK
  refine List.countP_mono_left fun i _ hi => ?_
  rw [← h, Nat.testBit_and, Bool.and_eq_true] at hi
  exact hi.2
theorem popK_64 (a : Nat) : popK a ≤ 64 := by
  unfold popK
  exact Nat.le_trans List.countP_le_length (by simp)
theorem lost_sub {own : List Int} {i : Int} {had u : Nat} (h : had &&& u = had) : lostO own i had &&& u = lostO own i had := by
  unfold lostO
  apply Nat.eq_of_testBit_eq
  intro j
  have hj : had.testBit j = true → u.testBit j = true := fun e => by
    rw [← h, Nat.testBit_and, Bool.and_eq_true] at e
    exact e.2
  rw [Nat.testBit_and, Nat.testBit_xor, Nat.testBit_and]
  cases h1 : had.testBit j <;> cases h2 : u.testBit j <;> cases h3 : (heldO own i).testBit j <;> simp_all
theorem old_eq {s : TSet} {P : List Ev} {k : KS} {cur : Int} (h : LInv s P k cur) {i : Nat} (hi : i ≤ s.tasks.length) : oldE (P ++ k.evs) i = oldS (k.tab.take i) := by
  unfold oldE oldS
  congr 1
  have hlt := h.lt
  refine List.ext_getElem (by simp; omega) fun j h1 h2 => ?_
  simp only [List.length_map, List.length_range] at h1
  simp only [List.getElem_map, List.getElem_range, List.getElem_take]
  rw [h.since j (by omega)]
  unfold stAt
  simp [List.getD, List.getElem?_eq_getElem (show j < k.tab.length by omega)]
theorem LInv.cong {s : TSet} {P : List Ev} {k : KS} {cur : Int} (h : LInv s P k cur) (l r : Int) : LInv s P { k with last := l, ran := r } cur := { h with }
theorem LInv.pre {s : TSet} {P : List Ev} {k : KS} {m l : Nat} (h : LInv s P k l) (hl : k.last = l) (hne : l ≠ m) : LInv s P (preK s k m) (-1) ∧ P ++ (preK s k m).evs = (P ++ k.evs) ++ [⟨k.t, 5, l, 0⟩] ∧ (preK s k m).tab = k.tab := by
  have hc : 0 ≤ k.last ∧ k.last ≠ (m : Int) := by rw [hl]; omega
  have e : preK s k m = ({ k with had := k.had.set l (heldO k.own l &&& (s.tk l).ucb.toNat) } : KS).tell 5 l 0 := by
    unfold preK
    rw [if_pos hc, hl]
    simp
  have hlog : P ++ (preK s k m).evs = (P ++ k.evs) ++ [⟨k.t, 5, l, 0⟩] := by rw [e, log_tell]
  have ht : (preK s k m).tab = k.tab := by rw [e]; rfl
  have hln : l < s.tasks.length ∧ (stAt k.tab l).pend = true ∧ (stAt k.tab l).start = true := by
    rcases h.curs with hc | ⟨_, h2, h3, h4⟩
    · omega
    · exact ⟨by omega, h3, h4⟩
  refine ⟨?_, hlog, ht⟩
  have hlh := h.lh
  rw [e] at hlog ⊢
  refine { h with lh := ?_, had := ?_, curs := .inl rfl, since := ?_, once := ?_, ok := ?_, evt := ?_, res := ?_ }
  · simpa [KS.tell] using h.lh
  · intro j hj
    show (k.had.set l _).getD j 0 &&& _ = (k.had.set l _).getD j 0
    rw [getD_set (by omega)]
    split
    · rename_i e; subst e
      rw [Nat.and_assoc, Nat.and_self]
    · exact h.had j hj
  · intro j hj
    rw [hlog, since_snoc]
    dsimp only
    have := h.since j hj
    split
    · rw [if_neg (by omega), if_neg (by omega)]; exact this
    · exact this
  · intro j hj
    rw [hlog, once_snoc]
    dsimp only
    have := h.once j hj
    show _ = onceOf (stAt k.tab j) _
    by_cases e : l = j
    · subst e
      rw [if_pos rfl, this]
      unfold onceOf onceS
      rw [hln.2.1, hln.2.2]
      simp
    · rw [if_neg (by omega), this, decide_eq_false (by omega), decide_eq_false (by omega)]
  · intro e he
    rw [hlog] at he
    rcases mem_snoc he with he | rfl
    · exact h.ok e he
    · exact okEv_task (by omega) (by omega)
  · intro e he
    rcases mem_snoc (show e ∈ k.evs ++ [⟨k.t, 5, l, 0⟩] from he) with he | rfl
    · exact h.evt e he
    · rfl
  · intro e he h6
    rw [hlog] at he
    rcases mem_snoc he with he | rfl
    · exact h.res e he h6
    · dsimp only at h6; omega
theorem LInv.start {s : TSet} (hs : KH s) {P : List Ev} {k : KS} {m : Nat} (h : LInv s P k (-1)) (hm : m < s.tasks.length) (hp : (stAt k.tab m).pend = true) (hst : (stAt k.tab m).start = false) :
    LInv s P (({ k with tab := k.tab.set m { stAt k.tab m with start := true }, load := k.load.set m 0 } : KS).tell 4 m 0) m := by
  have hlt := h.lt
  have hll := h.ll
  have ht : ∀ j, stAt (({ k with tab := k.tab.set m { stAt k.tab m with start := true }, load := k.load.set m 0 } : KS).tell 4 m 0).tab j = if m = j then { stAt k.tab m with start := true } else stAt k.tab j := fun j => stAt_set (by omega)
  have hlog := log_tell P ({ k with tab := k.tab.set m { stAt k.tab m with start := true }, load := k.load.set m 0 } : KS) 4 m 0
  have hlog : P ++ (({ k with tab := k.tab.set m { stAt k.tab m with start := true }, load := k.load.set m 0 } : KS).tell 4 m 0).evs = (P ++ k.evs) ++ [⟨k.t, 4, m, 0⟩] := hlog
  refine { h with lt := ?_, ll := ?_, zero := ?_, arr := ?_, job := ?_, fresh := ?_, load := ?_, curs := ?_, since := ?_, once := ?_, ok := ?_, evt := ?_, res := ?_ }
  · simpa [KS.tell] using h.lt
  · simpa [KS.tell] using h.ll
  · intro j hj hpj
    rw [ht] at hpj ⊢
    split at hpj
    · rw [hp] at hpj; cases hpj
    · rename_i e; rw [if_neg e]; exact h.zero j hj hpj
  · intro j hj hpj
    rw [ht] at hpj ⊢
    split
    · rename_i e; subst e; exact h.arr m hm hp
    · rename_i e; rw [if_neg e] at hpj; exact h.arr j hj hpj
  · intro j hj hpj
    rw [ht] at hpj
    by_cases e : m = j
    · subst e; exact h.job m hm hp
    · rw [if_neg e] at hpj; exact h.job j hj hpj
  · intro j hj hpj hsj
    rw [ht] at hpj hsj ⊢
    by_cases e : m = j
    · subst e; rw [if_pos rfl] at hsj; cases hsj
    · rw [if_neg e] at hpj hsj ⊢; exact h.fresh j hj hpj hsj
  · intro j hj
    show 0 ≤ (k.load.set m 0).getD j 0 ∧ (k.load.set m 0).getD j 0 ≤ _
    rw [getD_set (by omega)]
    split
    · have := hs.reload.1
      exact ⟨Int.le_refl _, Int.mul_nonneg this (by omega)⟩
    · exact h.load j hj
  · refine .inr ⟨by omega, by omega, ?_⟩
    rw [Int.toNat_natCast, ht, if_pos rfl]
    exact ⟨hp, rfl⟩
  · intro j hj
    rw [hlog, since_snoc, ht]
    dsimp only
    have := h.since j hj
    by_cases e : m = j
    · subst e
      rw [if_pos rfl, if_pos rfl, if_neg (by omega), if_neg (by omega), this]
      rfl
    · rw [if_neg (by omega), if_neg e]; exact this
  · intro j hj
    rw [hlog, once_snoc, ht]
    dsimp only
    have := h.once j hj
    by_cases e : m = j
    · subst e
      rw [if_pos rfl, if_pos rfl, this]
      unfold onceOf onceS
      dsimp only
      rw [hp, hst]
      simp
    · rw [if_neg (by omega), if_neg e, this, decide_eq_false (by omega), decide_eq_false (by omega)]
  · intro e he
    rw [hlog] at he
    rcases mem_snoc he with he | rfl
    · exact h.ok e he
    · exact okEv_task (by omega) (by omega)
  · intro e he
    rcases mem_snoc (show e ∈ k.evs ++ [⟨k.t, 4, m, 0⟩] from he) with he | rfl
    · exact h.evt e he
    · rfl
  · intro e he h6
    rw [hlog] at he
    rcases mem_snoc he with he | rfl
    · exact h.res e he h6
    · dsimp only at h6; omega
theorem touch_own {own : List Int} (h : ∀ o ∈ own, 0 ≤ o ∧ o ≤ 8) {m : Nat} (hm : m < 8) (x : Nat) : ∀ o ∈ touchO own m x, 0 ≤ o ∧ o ≤ 8 := by
  intro o ho
  unfold touchO at ho
  rw [List.mem_mapIdx] at ho
  obtain ⟨i, hi, rfl⟩ := ho
  split
  · omega
  · exact h _ (List.getElem_mem hi)
theorem LInv.resume {s : TSet} (hs : KH s) {P : List Ev} {k : KS} {m : Nat} (h : LInv s P k (-1)) (hm : m < s.tasks.length) (hp : (stAt k.tab m).pend = true) (hst : (stAt k.tab m).start = true) :
    LInv s P (({ k with load := k.load.set m (s.reload * popK (lostO k.own m (k.had.getD m 0))), own := touchO k.own m (lostO k.own m (k.had.getD m 0)) } : KS).tell 6 m (s.reload * popK (lostO k.own m (k.had.getD m 0)))) m := by
  have hll := h.ll
  have hsub := popK_le (lost_sub (own := k.own) (i := m) (h.had m hm))
  have hr := hs.reload
  have hc : 0 ≤ s.reload * (popK (lostO k.own m (k.had.getD m 0)) : Int) ∧ s.reload * (popK (lostO k.own m (k.had.getD m 0)) : Int) ≤ s.reload * popK (s.tk m).ucb.toNat :=
    ⟨Int.mul_nonneg hr.1 (by omega), Int.mul_le_mul_of_nonneg_left (by omega) hr.1⟩
  generalize lostO k.own m (k.had.getD m 0) = lost at hc ⊢
  generalize hcc : s.reload * (popK lost : Int) = c at hc ⊢
  have hlog : P ++ (({ k with load := k.load.set m c, own := touchO k.own m lost } : KS).tell 6 m c).evs = (P ++ k.evs) ++ [⟨k.t, 6, m, c⟩] := log_tell P _ 6 m c
  refine { h with ll := ?_, lo := ?_, load := ?_, own := ?_, curs := ?_, since := ?_, once := ?_, ok := ?_, evt := ?_, res := ?_ }
  · simpa [KS.tell] using h.ll
  · simpa [KS.tell, touchO] using h.lo
  · intro j hj
    show 0 ≤ (k.load.set m c).getD j 0 ∧ (k.load.set m c).getD j 0 ≤ _
    rw [getD_set (by omega)]
    split
    · rename_i e; subst e; exact hc
    · exact h.load j hj
  · exact touch_own h.own (by have := hs.len; omega) lost
  · refine .inr ⟨by omega, by omega, ?_⟩
    rw [Int.toNat_natCast]
    exact ⟨hp, hst⟩
  · intro j hj
    rw [hlog, since_snoc]
    dsimp only
    have := h.since j hj
    split
    · rw [if_neg (by omega), if_neg (by omega)]; exact this
    · exact this
  · intro j hj
    rw [hlog, once_snoc]
    dsimp only
    have := h.once j hj
    show _ = onceOf (stAt k.tab j) _
    by_cases e : m = j
    · subst e
      rw [if_pos rfl, this]
      unfold onceOf onceS
      rw [hp, hst]
      simp
    · rw [if_neg (by omega), this, decide_eq_false (by omega), decide_eq_false (by omega)]
  · intro e he
    rw [hlog] at he
    rcases mem_snoc he with he | rfl
    · exact h.ok e he
    · exact okEv_task (by omega) (by omega)
  · intro e he
    rcases mem_snoc (show e ∈ k.evs ++ [⟨k.t, 6, m, c⟩] from he) with he | rfl
    · exact h.evt e he
    · rfl
  · intro e he h6
    rw [hlog] at he
    rcases mem_snoc he with he | rfl
    · exact h.res e he h6
    · dsimp only
      rw [Int.toNat_natCast]
      exact hc
end Go.Proofs.Ytlaflbepidkmnaa
/- Plain: what holds of a kernel, whatever comes: a tick. -/
namespace Go.Proofs.Ytlaflbepidkmnaa

/-- when a task has been chosen -/
structure Aft (s : TSet) (k : KS) (m : Nat) : Prop where
  flt : (s.tk m).mode = 1 → (∃ a, oldS (k.tab.take m) = some a ∧ k.t < a + (s.tk m).q) ∨ (oldS (k.tab.take m) = none ∧ ∀ j, j < s.tasks.length → (stAt k.tab j).pend = true → beats s k.tab m j)
  thr : (s.tk m).mode = 2 → ∀ j, j < s.tasks.length → (stAt k.tab j).pend = true → beats s k.tab m j
theorem rank_le {s : TSet} (hs : KH s) (tab : List St) {j : Nat} (hj : j < s.tasks.length) (hp : (stAt tab j).pend = true) : rankS s tab j ≤ j := by
  unfold rankS
  rw [if_pos hp]
  split
  · have := hs.mode j hj
    omega
  · exact Int.le_refl _
theorem held_at {s : TSet} {tab : List St} {l : Nat} {t : Int} (hp : (stAt tab l).pend = true) (hst : (stAt tab l).start = true) :
    heldS s tab l t = if (s.tk l).mode = 0 then (stAt tab l).mid else if (s.tk l).mode = 1 then (match oldS (tab.take l) with | some a => decide (t < a + (s.tk l).q) | none => false) else false := by
  unfold heldS
  rw [Int.toNat_natCast, hp, hst, decide_eq_true (by omega)]
  rfl
/-- a change of one task that is chosen and starts -/
theorem Aft.of_best {s : TSet} (hs : KH s) {k : KS} {tab : List St} {m : Nat} (_hlt : tab.length = s.tasks.length) (hm : m < s.tasks.length) (hp : (stAt tab m).pend = true) (hb : ∀ j, j < s.tasks.length → (stAt tab j).pend = true → beats s tab m j)
    (h1 : ∀ j, (stAt k.tab j).pend = (stAt tab j).pend ∧ (stAt k.tab j).arr = (stAt tab j).arr) (h2 : ∀ j, j ≠ m → (stAt k.tab j).start = (stAt tab j).start) (h3 : (stAt k.tab m).start = true) (hlt2 : k.tab.length = s.tasks.length) : Aft s k m := by
  have hr : ∀ j, j ≠ m → rankS s k.tab j = rankS s tab j := fun j hj => rank_same (h1 j).1 (h2 j hj)
  have hrm : rankS s k.tab m ≤ rankS s tab m := by
    have hle := rank_le hs k.tab hm (by rw [(h1 m).1]; exact hp)
    unfold rankS at hle ⊢
    rw [(h1 m).1, hp, h3] at *
    simp only [if_true, and_true] at hle ⊢
    split
    · rename_i e
      rw [if_pos e] at hle
      split
      · exact Int.le_refl _
      · exact hle
    · rename_i e
      rw [if_neg (fun h => e h.1)]
      exact Int.le_refl _
  have hbe : ∀ j, j < s.tasks.length → (stAt k.tab j).pend = true → beats s k.tab m j := by
    intro j hj hpj
    by_cases e : j = m
    · subst e; exact .inr ⟨rfl, Nat.le_refl _⟩
    · rw [(h1 j).1] at hpj
      have := hb j hj hpj
      unfold beats at this ⊢
      rw [hr j e]
      omega
  refine ⟨fun hf => .inr ⟨?_, hbe⟩, fun _ => hbe⟩
  refine (old_none (by omega)).2 fun j hj => ?_
  refine was_none.2 ?_
  cases hpj : (stAt k.tab j).pend with
  | false => rfl
  | true =>
    exfalso
    have h4 := hbe j (by omega) hpj
    have h5 := rank_le hs k.tab (show j < s.tasks.length by omega) hpj
    have h6 : rankS s k.tab m = m := by
      unfold rankS
      rw [(h1 m).1, if_pos hp, if_neg (by omega)]
    unfold beats at h4
    omega
theorem LB.turn {s : TSet} (hs : KH s) {P : List Ev} {k : KS} (h : LB s P k) {m : Nat} (hc : chooseS s k.tab k.last k.t = m) :
    LInv s P (turnK s k m) m ∧ FairLog s (P ++ (turnK s k m).evs) ∧ Aft s (turnK s k m) m ∧ (turnK s k m).t = k.t ∧ m < s.tasks.length ∧ (stAt (turnK s k m).tab m).pend = true ∧ (stAt (turnK s k m).tab m).start = true ∧
      (turnK s k m).tab.length = s.tasks.length ∧ ∀ j, (stAt (turnK s k m).tab j).pend = (stAt k.tab j).pend ∧ (stAt (turnK s k m).tab j).arr = (stAt k.tab j).arr := by
  have hlt := h.inv.lt
  have hmn : m < s.tasks.length ∧ (stAt k.tab m).pend = true := by
    rcases choose_spec s k.tab k.last k.t with ⟨h1, h2⟩ | ⟨_, h2, _⟩ | ⟨_, m', h2, h3, h4, _⟩
    · rw [h2] at hc
      rcases h.inv.curs with hl | ⟨a, b, c, _⟩
      · omega
      · rw [hc] at b c; exact ⟨by omega, c⟩
    · omega
    · have : m' = m := by omega
      subst this; exact ⟨by omega, h4⟩
  obtain ⟨hm, hp⟩ := hmn
  -- what is told ahead
  have hpre : ∃ k1, preK s k m = k1 ∧ k1.tab = k.tab ∧ k1.t = k.t ∧ (k.last = m → k1 = k) ∧ (k.last ≠ m → LInv s P k1 (-1)) ∧
      ((P ++ k1.evs = P ++ k.evs) ∨ ∃ l : Nat, k.last = l ∧ l ≠ m ∧ P ++ k1.evs = (P ++ k.evs) ++ [⟨k.t, 5, l, 0⟩] ∧ l < s.tasks.length ∧ (stAt k.tab l).pend = true ∧ (stAt k.tab l).start = true) := by
    refine ⟨_, rfl, ?_⟩
    rcases h.inv.curs with hl | ⟨a, b, c, d⟩
    · have e : preK s k m = k := by unfold preK; rw [if_neg (by omega)]
      rw [e]
      exact ⟨rfl, rfl, fun _ => rfl, fun _ => by have := h.inv; rwa [hl] at this, .inl rfl⟩
    · obtain ⟨l, hl⟩ := Int.eq_ofNat_of_zero_le a
      rw [hl] at b c d
      rw [Int.toNat_natCast] at c d
      by_cases e : l = m
      · have e2 : preK s k m = k := by unfold preK; rw [if_neg (by omega)]
        rw [e2]
        exact ⟨rfl, rfl, fun _ => rfl, fun h => absurd hl (by omega), .inl rfl⟩
      · have hi := h.inv
        rw [hl] at hi
        obtain ⟨h1, h2, h3⟩ := hi.pre hl e
        refine ⟨h3, ?_, fun h => absurd hl (by omega), fun _ => h1, .inr ⟨l, hl, e, h2, by omega, c, d⟩⟩
        unfold preK
        rw [if_pos (by omega)]
        rfl
  obtain ⟨k1, ek1, ht1, htt1, hsame, hinv1, hlog1⟩ := hpre
  -- the fairness of what is told
  have hfair : ∀ e2 : Ev, e2.tick = k.t → ((e2.kind = 4 ∧ (stAt k.tab m).start = false) ∨ e2.kind = 6) → e2.task = m → FairLog s (P ++ k1.evs ++ [e2]) := by
    intro e2 h1 h2 h3
    rcases hlog1 with e | ⟨l, hl, hlm, e, hln, hlp, hls⟩
    · rw [e]; exact h.fair.snoc (by omega)
    · rw [e]
      refine h.fair.pair ?_ (by omega)
      have hb := h.betw l hl
      have hheld : heldS s k.tab l k.t = false ∧ ∀ j, j < k.tab.length → (stAt k.tab j).pend = true → beats s k.tab m j := by
        rcases choose_spec s k.tab k.last k.t with ⟨_, h5⟩ | ⟨_, h5, _⟩ | ⟨h4, m', h5, _, _, h6⟩
        · omega
        · omega
        · have : m' = m := by omega
          subst this
          rw [hl] at h4
          exact ⟨h4, h6⟩
      obtain ⟨hh, hbeat⟩ := hheld
      have hml := hbeat l (by omega) hlp
      rw [held_at hlp hls] at hh
      refine ⟨by dsimp only; omega, by dsimp only; omega, ?_⟩
      dsimp only
      rw [Int.toNat_natCast]
      rcases hs.mode l hln with m0 | ⟨m1, hq⟩ | ⟨m2, hq⟩
      · rw [if_pos m0] at hh ⊢
        exact hb.reg hh
      · rw [if_neg (by omega), if_pos m1] at hh ⊢
        rw [old_eq h.inv (by omega)]
        rcases hb.flt m1 with ⟨a, h7, h8⟩ | ⟨_, h7⟩
        · rw [h7] at hh
          have hh2 := of_decide_eq_false hh
          exact ⟨a, h7, by omega⟩
        · have := h7 m hm hp
          unfold beats at this hml
          omega
      · rw [if_neg (by omega), if_neg (by omega)]
        refine ⟨e2, by simp, h1, by omega, ?_⟩
        rcases hb.thr m2 m hm hp with h7 | ⟨h7, h8⟩
        · unfold beats at h7 hml
          omega
        · rw [h3]; exact h8
  have hbest : k.last ≠ m → ∀ j, j < s.tasks.length → (stAt k.tab j).pend = true → beats s k.tab m j := by
    intro hne
    rcases choose_spec s k.tab k.last k.t with ⟨_, h5⟩ | ⟨_, h5, _⟩ | ⟨h4, m', h5, _, _, h6⟩
    · omega
    · omega
    · have : m' = m := by omega
      subst this
      rw [hlt] at h6
      exact h6
  have hm1 : (stAt k1.tab m).pend = true := by rw [ht1]; exact hp
  by_cases hst : (stAt k.tab m).start = false
  · -- it starts
    have hne : k.last ≠ m := by
      intro e
      rcases h.inv.curs with hl | ⟨_, _, _, d⟩
      · omega
      · rw [e, Int.toNat_natCast, hst] at d; cases d
    have e : turnK s k m = ({ k1 with tab := k1.tab.set m { stAt k1.tab m with start := true }, load := k1.load.set m 0 } : KS).tell 4 m 0 := by
      unfold turnK
      rw [if_pos hst, ek1]
    have hI := (hinv1 hne).start hs hm hm1 (by rw [ht1]; exact hst)
    have ht : ∀ j, stAt (turnK s k m).tab j = if m = j then { stAt k.tab m with start := true } else stAt k.tab j := fun j => by
      rw [e, ← ht1]
      exact stAt_set (by rw [ht1]; omega)
    have hlog : P ++ (turnK s k m).evs = P ++ k1.evs ++ [⟨k.t, 4, m, 0⟩] := by
      rw [e, log_tell]
      show P ++ k1.evs ++ [⟨k1.t, 4, m, 0⟩] = _
      rw [htt1]
    have hl2 : (turnK s k m).tab.length = s.tasks.length := by
      rw [e]
      simp [KS.tell, ht1, hlt]
    have hst2 : (stAt (turnK s k m).tab m).start = true := by rw [ht, if_pos rfl]
    have hpa : ∀ j, (stAt (turnK s k m).tab j).pend = (stAt k.tab j).pend ∧ (stAt (turnK s k m).tab j).arr = (stAt k.tab j).arr := fun j => by
      rw [ht]
      split
      · rename_i e; subst e; exact ⟨rfl, rfl⟩
      · exact ⟨rfl, rfl⟩
    refine ⟨by rw [e]; exact hI, ?_, ?_, by rw [e]; exact htt1, hm, by rw [(hpa m).1]; exact hp, hst2, hl2, hpa⟩
    · rw [hlog]
      exact hfair _ rfl (.inl ⟨rfl, hst⟩) rfl
    · exact Aft.of_best hs hlt hm hp (hbest hne) hpa (fun j hj => by rw [ht, if_neg (fun e => hj e.symm)]) hst2 hl2
  · have hst : (stAt k.tab m).start = true := by simpa using hst
    by_cases hne : k.last ≠ m
    · -- it goes on
      have e : turnK s k m = ({ k1 with load := k1.load.set m (s.reload * popK (lostO k1.own m (k1.had.getD m 0))), own := touchO k1.own m (lostO k1.own m (k1.had.getD m 0)) } : KS).tell 6 m (s.reload * popK (lostO k1.own m (k1.had.getD m 0))) := by
        unfold turnK
        rw [if_neg (by rw [hst]; simp), if_pos hne, ek1]
      have hI := (hinv1 hne).resume hs hm hm1 (by rw [ht1]; exact hst)
      have ht : (turnK s k m).tab = k.tab := by rw [e]; exact ht1
      have hlog : ∃ c, P ++ (turnK s k m).evs = P ++ k1.evs ++ [⟨k.t, 6, m, c⟩] := by
        refine ⟨s.reload * popK (lostO k1.own m (k1.had.getD m 0)), ?_⟩
        rw [e, log_tell]
        show P ++ k1.evs ++ [⟨k1.t, 6, m, _⟩] = _
        rw [htt1]
      refine ⟨by rw [e]; exact hI, ?_, ?_, by rw [e]; exact htt1, hm, by rw [ht]; exact hp, by rw [ht]; exact hst, by rw [ht]; exact hlt, fun j => by rw [ht]; exact ⟨rfl, rfl⟩⟩
      · obtain ⟨c, hlog⟩ := hlog
        rw [hlog]
        exact hfair _ rfl (.inr rfl) rfl
      · exact Aft.of_best hs hlt hm hp (hbest hne) (fun j => by rw [ht]; exact ⟨rfl, rfl⟩) (fun j _ => by rw [ht]) (by rw [ht]; exact hst) (by rw [ht]; exact hlt)
    · have hl : k.last = m := by omega
      have e : turnK s k m = k := by
        unfold turnK
        rw [if_neg (by rw [hst]; simp), if_neg hne, ek1, hsame hl]
      rw [e]
      have hI := h.inv
      rw [hl] at hI
      refine ⟨hI, h.fair, ?_, rfl, hm, hp, hst, hlt, fun _ => ⟨rfl, rfl⟩⟩
      rcases choose_spec s k.tab k.last k.t with ⟨h4, _⟩ | ⟨_, h5, _⟩ | ⟨_, m', h5, _, _, h6⟩
      · rw [hl, held_at hp hst] at h4
        refine ⟨fun hf => ?_, fun hth => ?_⟩
        · rw [if_neg (by omega), if_pos hf] at h4
          cases ho : oldS (k.tab.take m) with
          | none => rw [ho] at h4; cases h4
          | some a =>
            rw [ho] at h4
            exact .inl ⟨a, rfl, of_decide_eq_true h4⟩
        · rw [if_neg (by omega), if_neg (by omega)] at h4
          cases h4
      · omega
      · have : m' = m := by omega
        subst this
        rw [hlt] at h6
        exact Aft.of_best hs hlt hm hp h6 (fun _ => ⟨rfl, rfl⟩) (fun _ _ => rfl) hst hlt
end Go.Proofs.Ytlaflbepidkmnaa
/- Plain: what holds of a kernel, whatever comes: a tick, and many. -/
namespace Go.Proofs.Ytlaflbepidkmnaa

theorem getD_set' {α : Type} {l : List α} {i j : Nat} {x d : α} (hi : i < l.length) : (l.set i x).getD j d = if i = j then x else l.getD j d := getD_set hi
/-- a job's state is turned: not there, or within a region or not -/
theorem LInv.mid {s : TSet} {P : List Ev} {k : KS} {m : Nat} (h : LInv s P k m) (b : Bool) (hm : m < s.tasks.length) (hp : (stAt k.tab m).pend = true) (hst : (stAt k.tab m).start = true) : LInv s P { k with tab := k.tab.set m { stAt k.tab m with mid := b } } m := by
  have hlt := h.lt
  have ht : ∀ j, stAt (k.tab.set m { stAt k.tab m with mid := b }) j = if m = j then { stAt k.tab m with mid := b } else stAt k.tab j := fun j => stAt_set (by omega)
  refine { h with lt := ?_, zero := ?_, arr := ?_, job := ?_, fresh := ?_, curs := ?_, since := ?_, once := ?_ }
  · simpa using h.lt
  · intro j hj hpj
    dsimp only at hpj ⊢
    rw [ht] at hpj ⊢
    split at hpj
    · rw [hp] at hpj; cases hpj
    · rename_i e; rw [if_neg e]; exact h.zero j hj hpj
  · intro j hj hpj
    dsimp only at hpj ⊢
    rw [ht] at hpj ⊢
    split
    · rename_i e; subst e; exact h.arr m hm hp
    · rename_i e; rw [if_neg e] at hpj; exact h.arr j hj hpj
  · intro j hj hpj
    dsimp only at hpj ⊢
    rw [ht] at hpj
    by_cases e : m = j
    · subst e; exact h.job m hm hp
    · rw [if_neg e] at hpj; exact h.job j hj hpj
  · intro j hj hpj hsj
    dsimp only at hpj hsj ⊢
    rw [ht] at hpj hsj ⊢
    by_cases e : m = j
    · subst e; rw [if_pos rfl] at hsj; dsimp only at hsj; rw [hst] at hsj; cases hsj
    · rw [if_neg e] at hpj hsj ⊢; exact h.fresh j hj hpj hsj
  · refine .inr ⟨by omega, by omega, ?_⟩
    dsimp only
    rw [Int.toNat_natCast, ht, if_pos rfl]
    exact ⟨hp, hst⟩
  · intro j hj
    dsimp only
    rw [ht, h.since j hj]
    split
    · rename_i e; subst e; rfl
    · rfl
  · intro j hj
    dsimp only
    rw [ht, h.once j hj]
    split
    · rename_i e; subst e; rfl
    · rfl
theorem LInv.job' {s : TSet} {P : List Ev} {k : KS} {m : Nat} (h : LInv s P k m) {x : Jb} (hx : JOk (s.tk m).regs x) (hm : m < s.tasks.length) (hst : (stAt k.tab m).start = true) : LInv s P { k with jobs := k.jobs.set m x } m := by
  have hlj := h.lj
  refine { h with lj := ?_, job := ?_, fresh := ?_ }
  · simpa using h.lj
  · intro j hj hpj
    dsimp only at hpj ⊢
    rw [getD_set (by omega)]
    split
    · rename_i e; subst e; exact hx
    · exact h.job j hj hpj
  · intro j hj hpj hsj
    dsimp only at hpj hsj ⊢
    rw [getD_set (by omega)]
    split
    · rename_i e; subst e; rw [hst] at hsj; cases hsj
    · exact h.fresh j hj hpj hsj
/-- a job is done, or cut -/
theorem LInv.over {s : TSet} {P : List Ev} {k : KS} {m : Nat} (h : LInv s P k m) (x : Jb) {kind c : Int} (hk : kind = 8 ∨ kind = 9) (hm : m < s.tasks.length) (hp : (stAt k.tab m).pend = true) (hst : (stAt k.tab m).start = true) (l : Int) :
    LInv s P { (({ k with jobs := k.jobs.set m x } : KS).tell kind m c) with tab := k.tab.set m St.zero, last := l } (-1) := by
  have hlt := h.lt
  have hlj := h.lj
  have ht : ∀ j, stAt (k.tab.set m St.zero) j = if m = j then St.zero else stAt k.tab j := fun j => stAt_set (by omega)
  have hlog : P ++ (k.evs ++ [(⟨k.t, kind, m, c⟩ : Ev)]) = (P ++ k.evs) ++ [⟨k.t, kind, m, c⟩] := by simp
  refine { h with lj := ?_, lt := ?_, zero := ?_, arr := ?_, job := ?_, fresh := ?_, curs := .inl rfl, since := ?_, once := ?_, ok := ?_, evt := ?_, res := ?_ }
  · simpa [KS.tell] using h.lj
  · simpa [KS.tell] using h.lt
  · intro j hj hpj
    dsimp only at hpj ⊢
    rw [ht] at hpj ⊢
    split
    · rfl
    · rename_i e; rw [if_neg e] at hpj; exact h.zero j hj hpj
  · intro j hj hpj
    dsimp only at hpj ⊢
    rw [ht] at hpj ⊢
    by_cases e : m = j
    · rw [if_pos e] at hpj; cases hpj
    · rw [if_neg e] at hpj ⊢; exact h.arr j hj hpj
  · intro j hj hpj
    dsimp only at hpj ⊢
    rw [ht] at hpj
    by_cases e : m = j
    · rw [if_pos e] at hpj; cases hpj
    · rw [if_neg e] at hpj
      show JOk _ ((k.jobs.set m x).getD j Jb.zero)
      rw [getD_set (by omega), if_neg e]
      exact h.job j hj hpj
  · intro j hj hpj hsj
    dsimp only at hpj hsj ⊢
    rw [ht] at hpj hsj ⊢
    by_cases e : m = j
    · rw [if_pos e] at hpj; cases hpj
    · rw [if_neg e] at hpj hsj ⊢
      show ((k.jobs.set m x).getD j Jb.zero).k = 0 ∧ ((k.jobs.set m x).getD j Jb.zero).n = 0 ∧ _
      rw [getD_set (by omega), if_neg e]
      exact h.fresh j hj hpj hsj
  · intro j hj
    show sinceL (P ++ (k.evs ++ [_])) j = (stAt (k.tab.set m St.zero) j).was
    rw [hlog, since_snoc, ht]
    dsimp only
    have := h.since j hj
    by_cases e : m = j
    · subst e
      rw [if_pos rfl, if_pos rfl, if_neg (by omega), if_pos hk]
      rfl
    · rw [if_neg (by omega), if_neg e]; exact this
  · intro j hj
    show onceL (P ++ (k.evs ++ [_])) j = onceOf (stAt (k.tab.set m St.zero) j) _
    rw [hlog, once_snoc, ht]
    dsimp only
    have := h.once j hj
    by_cases e : m = j
    · subst e
      rw [if_pos rfl, if_pos rfl, this]
      unfold onceOf onceS
      rw [hp, hst, if_neg (by omega), if_neg (by omega), if_neg (by omega), if_neg (by omega), if_pos hk]
      simp [St.zero]
    · rw [if_neg (by omega), if_neg e, this, decide_eq_false (by omega), decide_eq_false (by omega)]
  · intro e he
    have he : e ∈ P ++ (k.evs ++ [(⟨k.t, kind, m, c⟩ : Ev)]) := he
    rw [hlog] at he
    rcases mem_snoc he with he | rfl
    · exact h.ok e he
    · exact okEv_task (by omega) (by omega)
  · intro e he
    rcases mem_snoc (show e ∈ k.evs ++ [(⟨k.t, kind, m, c⟩ : Ev)] from he) with he | rfl
    · exact h.evt e he
    · rfl
  · intro e he h6
    have he : e ∈ P ++ (k.evs ++ [(⟨k.t, kind, m, c⟩ : Ev)]) := he
    rw [hlog] at he
    rcases mem_snoc he with he | rfl
    · exact h.res e he h6
    · dsimp only at h6; omega
theorem LInv.at {s : TSet} {P : List Ev} {k : KS} {a b : Int} (h : LInv s P k a) (e : a = b) : LInv s P k b := e ▸ h
theorem jobs_tell (k : KS) (a b c : Int) : (k.tell a b c).jobs = k.jobs := rfl
theorem LInv.runs {s : TSet} (hs : KH s) {P : List Ev} {k : KS} {m : Nat} (h : LInv s P k m) (hl : k.last = m) (hfair : FairLog s (P ++ k.evs)) (haft : Aft s k m) (hm : m < s.tasks.length) (hp : (stAt k.tab m).pend = true) (hst : (stAt k.tab m).start = true) (touch : Nat) :
    LInv s P (runsK s k m touch) (runsK s k m touch).last ∧ FairLog s (P ++ (runsK s k m touch).evs) ∧ (runsK s k m touch).t = k.t ∧ ((runsK s k m touch).last = -1 ∨ ((runsK s k m touch).last = m ∧ Aft s (runsK s k m touch) m ∧ ((stAt (runsK s k m touch).tab m).mid = false → lastL (P ++ (runsK s k m touch).evs) m = 7))) := by
  have h1 : LInv s P { k with own := touchO k.own m (touch &&& (s.tk m).ecb.toNat) } m := { h with
    lo := by simpa [touchO] using h.lo
    own := touch_own h.own (by have := hs.len; omega) _ }
  generalize hk1 : ({ k with own := touchO k.own m (touch &&& (s.tk m).ecb.toNat) } : KS) = k1 at h1
  have e1 : k1.tab = k.tab ∧ k1.evs = k.evs ∧ k1.t = k.t ∧ k1.last = k.last ∧ k1.load = k.load ∧ k1.jobs = k.jobs := by subst hk1; exact ⟨rfl, rfl, rfl, rfl, rfl, rfl⟩
  obtain ⟨f1, f2, f3, f4, f5, f6⟩ := e1
  have hp1 : (stAt k1.tab m).pend = true := by rw [f1]; exact hp
  have hst1 : (stAt k1.tab m).start = true := by rw [f1]; exact hst
  have hlt := h1.lt
  have haft2 : ∀ (k' : KS) (b : Bool), k'.tab = k1.tab.set m { stAt k1.tab m with mid := b } → k'.t = k.t → Aft s k' m := by
    intro k' b htab ht
    have hat : ∀ j, stAt k'.tab j = if m = j then { stAt k1.tab m with mid := b } else stAt k1.tab j := fun j => by rw [htab]; exact stAt_set (by omega)
    have hpe : ∀ j, (stAt k'.tab j).pend = (stAt k.tab j).pend ∧ (stAt k'.tab j).start = (stAt k.tab j).start ∧ (stAt k'.tab j).was = (stAt k.tab j).was := fun j => by
      rw [hat]
      split
      · rename_i e; subst e; rw [f1]; exact ⟨rfl, rfl, rfl⟩
      · rw [f1]; exact ⟨rfl, rfl, rfl⟩
    have hr : ∀ j, rankS s k'.tab j = rankS s k.tab j := fun j => rank_same (hpe j).1 (hpe j).2.1
    have hbe : ∀ j, beats s k'.tab m j ↔ beats s k.tab m j := fun j => by unfold beats; rw [hr, hr]
    have hl1 : k'.tab.length = k.tab.length := by rw [htab, f1]; simp
    have ho : oldS (k'.tab.take m) = oldS (k.tab.take m) := by
      unfold oldS
      congr 1
      refine List.ext_getElem (by simp [hl1]) fun j g1 g2 => ?_
      simp only [List.length_map, List.length_take] at g1 g2
      have := (hpe j).2.2
      unfold stAt at this
      simp only [List.getD, List.getElem?_eq_getElem (show j < k'.tab.length by omega), List.getElem?_eq_getElem (show j < k.tab.length by omega), Option.getD_some] at this
      simpa using this
    refine ⟨fun hf => ?_, fun hth j hj hpj => (hbe j).2 (haft.thr hth j hj (by rw [← (hpe j).1]; exact hpj))⟩
    rcases haft.flt hf with ⟨a, h7, h8⟩ | ⟨h7, h8⟩
    · exact .inl ⟨a, by rw [ho]; exact h7, by rw [ht]; exact h8⟩
    · exact .inr ⟨by rw [ho]; exact h7, fun j hj hpj => (hbe j).2 (h8 j hj (by rw [← (hpe j).1]; exact hpj))⟩
  have hr := hs.regs m hm
  have hjob := (h1.job m hm hp1).step (fun x hx => (hr.2.2 x hx).1)
  have hmid0 : ∀ b : Bool, (stAt (k1.tab.set m { stAt k1.tab m with mid := b }) m).mid = b := fun b => by rw [stAt_set (by omega), if_pos rfl]
  unfold runsK
  rw [hk1]
  dsimp only
  by_cases hload : 0 < k1.load.getD m 0
  · rw [if_pos hload]
    have h2 : LInv s P { k1 with load := k1.load.set m (k1.load.getD m 0 - 1) } m := by
      have hll := h1.ll
      refine { h1 with ll := ?_, load := ?_ }
      · simpa using h1.ll
      · intro j hj
        dsimp only
        rw [getD_set (by omega)]
        have := h1.load j hj
        split
        · rename_i e; subst e; omega
        · exact this
    have h3 := h2.mid true hm hp1 hst1
    refine ⟨?_, by dsimp only; rw [f2]; exact hfair, f3, .inr ⟨by dsimp only; omega, haft2 _ true rfl f3, fun e => ?_⟩⟩
    · exact h3.at (show (m : Int) = k1.last by omega)
    · dsimp only at e; rw [hmid0] at e; cases e
  · rw [if_neg hload]
    rcases hjob with ⟨c1, c2, c3, c4, c5⟩ | ⟨c1, c2, c3, c4, c5⟩ | ⟨c1, c2⟩ | ⟨c1, c2⟩
    · rw [c1, if_neg (show ¬ ((0 : Int) = 1 ∨ (0 : Int) = 2) by omega), if_neg (show ¬ (0 : Int) = 2 by omega), if_neg (show ¬ (0 : Int) = 3 by omega)]
      have h3 := (h1.job' c3 hm hst1).mid ((k1.jobs.getD m Jb.zero).step.1.mid) hm hp1 hst1
      refine ⟨?_, by dsimp only; rw [f2]; exact hfair, f3, .inr ⟨by dsimp only; omega, haft2 _ _ rfl f3, fun e => ?_⟩⟩
      · exact h3.at (show (m : Int) = k1.last by omega)
      · dsimp only at e; rw [hmid0] at e
        have h9 := (h1.job m hm hp1).n
        unfold Jb.mid at e
        have := of_decide_eq_false e
        omega
    · rw [c1, if_pos (show ((1 : Int) = 1 ∨ (1 : Int) = 2) by omega), if_neg (show ¬ (1 : Int) = 2 by omega), if_neg (show ¬ (1 : Int) = 3 by omega)]
      have h3 := ((h1.job' c3 hm hst1).tell (a := 7) (b := m) (c := (k1.jobs.getD m Jb.zero).step.2.1) (by omega) (okEv_task (by omega) (by omega))).mid ((k1.jobs.getD m Jb.zero).step.1.mid) hm hp1 hst1
      have hlog : P ++ (k1.evs ++ [(⟨k1.t, 7, m, (k1.jobs.getD m Jb.zero).step.2.1⟩ : Ev)]) = (P ++ k.evs) ++ [⟨k1.t, 7, m, (k1.jobs.getD m Jb.zero).step.2.1⟩] := by rw [f2]; simp
      refine ⟨?_, ?_, f3, .inr ⟨by show k1.last = m; omega, haft2 _ _ rfl f3, fun _ => ?_⟩⟩
      · exact h3.at (show (m : Int) = k1.last by omega)
      · have hf : FairLog s (P ++ (k1.evs ++ [(⟨k1.t, 7, m, (k1.jobs.getD m Jb.zero).step.2.1⟩ : Ev)])) := by
          rw [hlog]; exact hfair.snoc (by dsimp only; omega)
        exact hf
      · have hf : lastL (P ++ (k1.evs ++ [(⟨k1.t, 7, m, (k1.jobs.getD m Jb.zero).step.2.1⟩ : Ev)])) m = 7 := by
          rw [hlog, last_snoc]
          dsimp only
          rw [if_pos (by omega)]
        exact hf
    · rw [c1, if_pos (show ((2 : Int) = 1 ∨ (2 : Int) = 2) by omega), if_pos (show (2 : Int) = 2 from rfl)]
      have h2 := h1.tell (a := 7) (b := m) (c := (k1.jobs.getD m Jb.zero).step.2.1) (by omega) (okEv_task (by omega) (by omega))
      have h3 := h2.over ((k1.jobs.getD m Jb.zero).step.1) (kind := 8) (c := k1.t + 1 - (stAt k1.tab m).arr) (.inl rfl) hm hp1 hst1 (-1)
      have hlog : P ++ (k1.evs ++ [(⟨k1.t, 7, m, (k1.jobs.getD m Jb.zero).step.2.1⟩ : Ev)] ++ [(⟨k1.t, 8, m, k1.t + 1 - (stAt k1.tab m).arr⟩ : Ev)]) = (P ++ k.evs) ++ [⟨k1.t, 7, m, (k1.jobs.getD m Jb.zero).step.2.1⟩] ++ [⟨k1.t, 8, m, k1.t + 1 - (stAt k1.tab m).arr⟩] := by rw [f2]; simp
      refine ⟨h3, ?_, f3, .inl rfl⟩
      have hf : FairLog s (P ++ (k1.evs ++ [(⟨k1.t, 7, m, (k1.jobs.getD m Jb.zero).step.2.1⟩ : Ev)] ++ [(⟨k1.t, 8, m, k1.t + 1 - (stAt k1.tab m).arr⟩ : Ev)])) := by
        rw [hlog]
        exact (hfair.snoc (by dsimp only; omega)).snoc (by dsimp only; omega)
      exact hf
    · rw [c1, if_neg (show ¬ ((3 : Int) = 1 ∨ (3 : Int) = 2) by omega), if_neg (show ¬ (3 : Int) = 2 by omega), if_pos (show (3 : Int) = 3 from rfl)]
      have h3 := h1.over ((k1.jobs.getD m Jb.zero).step.1) (kind := 9) (c := k1.t + 1 - (stAt k1.tab m).arr) (.inr rfl) hm hp1 hst1 (-1)
      have hlog : P ++ (k1.evs ++ [(⟨k1.t, 9, m, k1.t + 1 - (stAt k1.tab m).arr⟩ : Ev)]) = (P ++ k.evs) ++ [⟨k1.t, 9, m, k1.t + 1 - (stAt k1.tab m).arr⟩] := by rw [f2]; simp
      refine ⟨h3, ?_, f3, .inl rfl⟩
      have hf : FairLog s (P ++ (k1.evs ++ [(⟨k1.t, 9, m, k1.t + 1 - (stAt k1.tab m).arr⟩ : Ev)])) := by
        rw [hlog]
        exact hfair.snoc (by dsimp only; omega)
      exact hf
/-- what is so between two ticks; P: all events so far -/
structure KInv (s : TSet) (P : List Ev) (k : KS) : Prop where
  lb : LB s P { k with evs := [] }
theorem KInv.init {s : TSet} (_hs : KH s) : KInv s [] (initK s) := by
  have hz : ∀ i, stAt (List.replicate s.tasks.length St.zero) i = St.zero := fun i => by
    unfold stAt
    simp only [List.getD, List.getElem?_replicate]
    split <;> rfl
  refine ⟨⟨⟨?_, ?_, ?_, ?_, ?_, ?_, Int.le_refl _, ?_, ?_, ?_, ?_, ?_, ?_, ?_, ?_, .inl rfl, ?_, ?_, ?_, ?_, ?_, List.Pairwise.nil, ?_⟩, ?_, FairLog.nil s⟩⟩
  · simp [initK]
  · simp [initK]
  · simp [initK]
  · simp [initK]
  · simp [initK]
  · simp [initK]
  · intro i _ _; exact hz i
  · intro i _ h
    have : (stAt (initK s).tab i).pend = true := h
    unfold initK at this
    rw [hz] at this; cases this
  · intro i _ h
    have : (stAt (initK s).tab i).pend = true := h
    unfold initK at this
    rw [hz] at this; cases this
  · intro i _ h
    have : (stAt (initK s).tab i).pend = true := h
    unfold initK at this
    rw [hz] at this; cases this
  · intro i hi
    left
    simp [initK, List.getD, hi]
  · intro i hi
    simp [initK, List.getD, hi]
  · intro i hi
    have hr := _hs.reload.1
    simp only [initK, List.getD, List.getElem?_replicate]
    split
    · exact ⟨Int.le_refl _, Int.mul_nonneg hr (by omega)⟩
    · exact ⟨Int.le_refl _, Int.mul_nonneg hr (by omega)⟩
  · intro o ho
    have ho : o ∈ List.replicate 64 (0 : Int) := ho
    have := List.eq_of_mem_replicate ho
    omega
  · intro i _
    show sinceL [] i = (stAt (List.replicate s.tasks.length St.zero) i).was
    rw [hz]; rfl
  · intro i _
    show onceL [] i = onceOf (stAt (List.replicate s.tasks.length St.zero) i) _
    rw [hz]; rfl
  · intro e he; cases he
  · intro e he; cases he
  · intro e he; cases he
  · intro e he; cases he
  · intro m hm
    have : (-1 : Int) = m := hm
    omega
theorem late_t (s : TSet) (k : KS) : (lateK s k).t = k.t ∧ (lateK s k).last = k.last :=
  fold_range (fun k' => k'.t = k.t ∧ k'.last = k.last) (late1 s) _ k ⟨rfl, rfl⟩ fun a i _ h => by
    unfold late1
    split
    · exact h
    · exact h
theorem arrive_t (s : TSet) (x : Inp) (k : KS) : (arriveK s x k).t = k.t ∧ (arriveK s x k).last = k.last :=
  fold_range (fun k' => k'.t = k.t ∧ k'.last = k.last) (arrive1 s x) _ k ⟨rfl, rfl⟩ fun a i _ h => by
    unfold arrive1
    split
    · exact h
    · split
      · exact h
      · split
        · exact h
        · exact h
theorem LInv.next {s : TSet} {P : List Ev} {k : KS} {cur : Int} (h : LInv s P k cur) (r : Int) : LInv s (P ++ k.evs) { k with ran := r, t := k.t + 1, evs := [] } cur := by
  have ht := h.t
  refine { h with t := by dsimp only; omega, arr := ?_, pol := ?_, since := ?_, once := ?_, ok := ?_, evt := ?_, past := ?_, sorted := ?_, res := ?_ }
  · intro i hi hp
    have := h.arr i hi hp
    exact ⟨this.1, by dsimp only; omega, this.2.2⟩
  · intro i hi
    have := h.pol i hi
    dsimp only
    omega
  · intro i hi; rw [List.append_nil]; exact h.since i hi
  · intro i hi; rw [List.append_nil]; exact h.once i hi
  · intro e he; rw [List.append_nil] at he; exact h.ok e he
  · intro e he; cases he
  · intro e he
    dsimp only
    rcases List.mem_append.1 he with he | he
    · have := h.past e he; omega
    · have := h.evt e he; omega
  · rw [List.pairwise_append]
    refine ⟨h.sorted, ?_, fun a ha b hb => ?_⟩
    · rw [List.pairwise_iff_getElem]
      intro i j hi hj _
      have h1 := h.evt _ (List.getElem_mem hi)
      have h2 := h.evt _ (List.getElem_mem hj)
      omega
    · have h1 := h.past a ha
      have h2 := h.evt b hb
      omega
  · intro e he h6; rw [List.append_nil] at he; exact h.res e he h6
theorem KInv.step {s : TSet} (hs : KH s) {P : List Ev} {k : KS} (h : KInv s P k) (x : Inp) : KInv s (P ++ (stepK s k x).evs) (stepK s k x) ∧ (stepK s k x).t = k.t + 1 := by
  have h1 := (h.lb.late).arrive hs x
  have ht1 : (arriveK s x (lateK s { k with evs := [] })).t = k.t := by rw [(arrive_t _ _ _).1, (late_t _ _).1]
  unfold stepK
  dsimp only
  generalize arriveK s x (lateK s { k with evs := [] }) = k1 at h1 ht1
  rcases Int.lt_or_le (chooseS s k1.tab k1.last k1.t) 0 with hneg | hpos
  · have hc : chooseS s k1.tab k1.last k1.t = -1 ∧ k1.last = -1 := by
      rcases choose_spec s k1.tab k1.last k1.t with ⟨h4, h5⟩ | ⟨_, h5, h6⟩ | ⟨_, m, h5, _⟩
      · rw [h5] at hneg
        unfold heldS at h4
        rw [decide_eq_false (by omega)] at h4
        cases h4
      · refine ⟨h5, ?_⟩
        rcases h1.inv.curs with hl | ⟨a, b, c, _⟩
        · exact hl
        · rw [h6 _ (by rw [h1.inv.lt]; omega)] at c; cases c
      · omega
    rw [if_pos hc.1]
    have h2 := h1.inv.tell (a := 10) (b := -1) (c := 0) (by omega) (.inl ⟨rfl, rfl⟩)
    have h3 := h2.next (chooseS s k1.tab k1.last k1.t)
    refine ⟨⟨⟨h3, fun m hm => ?_, ?_⟩⟩, by show k1.t + 1 = _; omega⟩
    · have : k1.last = m := hm
      omega
    · show FairLog s (P ++ (k1.evs ++ [_]) ++ [])
      rw [List.append_nil, ← List.append_assoc]
      exact h1.fair.snoc (by dsimp only; omega)
  · obtain ⟨m, hm⟩ := Int.eq_ofNat_of_zero_le hpos
    rw [hm]
    rw [if_neg (by omega)]
    rw [Int.toNat_natCast]
    obtain ⟨a1, a2, a3, a4, a5, a6, a7, a8, a9⟩ := h1.turn hs hm
    have b0 : LInv s P { turnK s k1 m with last := (m : Int) } m := a1.cong m (turnK s k1 m).ran
    have a3' : Aft s { turnK s k1 m with last := (m : Int) } m := ⟨a3.flt, a3.thr⟩
    obtain ⟨b1, b2, b3, b4⟩ := b0.runs hs rfl a2 a3' a5 a6 a7 x.touch
    generalize runsK s { turnK s k1 m with last := (m : Int) } m x.touch = k2 at b1 b2 b3 b4 ⊢
    have h3 := b1.next (m : Int)
    have ht2 : k2.t = k.t := by rw [b3]; show (turnK s k1 m).t = _; omega
    refine ⟨⟨⟨h3, fun m' hm' => ?_, by rw [List.append_nil]; exact b2⟩⟩, by show k2.t + 1 = _; omega⟩
    have hm2 : k2.last = m' := hm'
    rcases b4 with b4 | ⟨b4, b5, b6⟩
    · omega
    · have : m' = m := by omega
      subst this
      refine ⟨fun hmid => ?_, fun hf => ?_, fun hth j hj hpj => .inl (b5.thr hth j hj hpj)⟩
      · rw [List.append_nil]
        exact b6 hmid
      · rcases b5.flt hf with ⟨a, c1, c2⟩ | c
        · exact .inl ⟨a, c1, by show k2.t + 1 ≤ _; omega⟩
        · exact .inr c
theorem runK_inv {s : TSet} (hs : KH s) : ∀ (l : List Inp) (P : List Ev) (k : KS), KInv s P k → KInv s (P ++ (runK s l k).1) (runK s l k).2 ∧ (runK s l k).2.t = k.t + l.length
  | [], P, k, h => by
    refine ⟨by unfold runK; simpa using h, ?_⟩
    unfold runK; simp
  | x :: l, P, k, h => by
    obtain ⟨h1, h2⟩ := h.step hs x
    obtain ⟨h3, h4⟩ := runK_inv hs l _ _ h1
    unfold runK
    dsimp only
    rw [← List.append_assoc]
    refine ⟨h3, ?_⟩
    rw [h4, h2, List.length_cons]
    push_cast
    omega
end Go.Proofs.Ytlaflbepidkmnaa
