import Derived.Test.YtakiicbcephbhaaDoorProg
import Derived.Test.YtakiicbcephbhaaDoorBase
import Derived.Test.YtakiicbcephbhaaDoorBase2
import Derived.Test.YtakiicbcephbhaaDoorLexM
import Derived.Test.YtakiicbcephbhaaDoorLexP
import Derived.Test.YtakiicbcephbhaaDoorLexQ
import Derived.Test.YtakiicbcephbhaaDoorLex1
import Derived.Test.YtakiicbcephbhaaDoorLex2
import Derived.Test.YtakiicbcephbhaaDoorLex3
import Derived.Test.YtakiicbcephbhaaDoorRef4
import Derived.Test.YtakiicbcephbhaaDoorRef4b
import Derived.Test.YtakiicbcephbhaaDoorLaw4a
import Derived.BigQuiet
import Derived.Deep.QuietTactic
import Derived.RegionCalls
import Derived.Deep.RegionWith
namespace Go.Proofs.YtakiicbcephbhaaDoor
open Go.RowKit
attribute [local go_sem] setCell_twice ByteArray.toList_eq str_list
attribute [local go_sem high] eqTok

theorem join_str (a b : ByteArray) : a ++ ⟨#[10]⟩ ++ b = str (a.data.toList ++ 10 :: b.data.toList) := by
  apply ba_ext
  rw [Joins.data_append, Joins.data_append, str_list]
  simp

/-- what LexJoin looks at -/
theorem join_at {l m x : List Tok} {d : Nat} (l' : List Tok) (e : Tok) (h1 : l = l' ++ [e]) (h2 : x = l' ++ m.map (shiftT d)) :
    x.length + 1 = l.length + m.length ∧ 0 < l.length ∧ (∀ k (h : k < x.length) (_ : k + 1 < l.length), x[k] = l[k]) ∧ (∀ k (h : k < x.length) (_ : l.length ≤ k + 1) (hm : k + 1 - l.length < m.length), x[k] = shiftT d (m[k + 1 - l.length])) := by
  subst h1 h2
  refine ⟨by simp; omega, by simp, fun k h hl => ?_, fun k h hl hm => ?_⟩
  · have : k < l'.length := by simp at hl; omega
    rw [List.getElem_append_left this, List.getElem_append_left this]
  · have h1 : l'.length ≤ k := by simp at hl; omega
    rw [List.getElem_append_right h1, List.getElem_map]
    simp

set_option maxHeartbeats 3200000 in
set_option maxRecDepth 100000 in
theorem lexJoin_walk (a b : ByteArray) (w : World) (ha0 : a.size ≤ 140737488351232) (hb0 : b.size ≤ 140737488351232) (hG : GOK w) :
    Calls Tryd.prog 8 #[.string a, .string b] w fun e w' => e = .returned (.bool true) ∧ Below w.heap.size w w' := by
  have t1 := fun (W : World) => tokensR_any a W (by unfold maxLen; omega)
  have t2 := fun (W : World) => tokensR_any b W (by unfold maxLen; omega)
  have pl := fun (ts : List Tok) (p : Nat) (h : tokensL b.data.toList = (ts, p, 0)) => tokens_place h
  have tn := fun (l m : List Tok) (p q : Nat) (h1 : tokensL a.data.toList = (l, p, 0)) (h2 : tokensL b.data.toList = (m, q, 0)) (h3 : a.size + b.size ≤ 3000) => tokens_join a.data.toList b.data.toList l m p q h1 h2 (by rw [list_size, list_size]; exact h3)
  have cn := fun (ts : List Tok) (p : Nat) (e : Int) (h : tokensL a.data.toList = (ts, p, e)) => tokens_count h
  have cm := fun (ts : List Tok) (p : Nat) (e : Int) (h : tokensL b.data.toList = (ts, p, e)) => tokens_count h
  generalize tokensL a.data.toList = R1 at t1 tn cn
  generalize tokensL b.data.toList = R2 at t2 tn pl cm
  obtain ⟨l, p, er1⟩ := R1
  obtain ⟨m, q, er2⟩ := R2
  have kn := cn l p er1 rfl
  have km := cm m q er2 rfl
  rw [list_size] at kn km
  clear cn cm
  have T1 := Lib.hid t1; clear t1
  have T2 := Lib.hid t2; clear t2
  have PL := Lib.hid pl; clear pl
  have TN := Lib.hid tn; clear tn
  by_cases hc : a.size + b.size ≤ 3000 ∧ er1 = 0 ∧ er2 = 0
  · obtain ⟨hc1, rfl, rfl⟩ := hc
    obtain ⟨hp, hpl⟩ := PL.out m q rfl
    rw [list_size] at hpl
    have HPL := Lib.hid hpl; clear hpl PL hp
    obtain ⟨l', e, r, hl', hx'⟩ := TN.out l m p q rfl rfl hc1
    rw [list_size] at hx'
    have hgs : decide ((a.size : Int) + b.size > 3000) = false := by simp; omega
    generalize hx0 : l' ++ m.map (shiftT (a.size + 1)) = x at hx'
    obtain ⟨hlen, hlpos, hleft, hright⟩ := join_at l' e hl' hx0.symm
    have HL := Lib.hid hleft
    have HR := Lib.hid hright
    have HX := Lib.hid hx'
    clear hleft hright hx0 hl' hx' TN
    go_enter Tryd.func8, Tryd.ntmps8
    go_wp2_with (fail)
    refine (T1.out _).mono ?_
    rintro e1 w1 ⟨v1, rfl, ⟨A1, c1, rfl, hl1, hl2, hy1⟩, hb1⟩
    go_wp2_with (fail)
    refine (T2.out _).mono ?_
    rintro e2 w2 ⟨v2, rfl, ⟨A2, c2, rfl, hm1, hm2, hy2⟩, hb2⟩
    dsimp only at hl1 hl2 hy1 hm1 hm2 hy2 hb1 hb2 ⊢
    unfold maxLen at hl2 hm2
    go_wp2_with (fail)
    rw [join_str]
    have hsm : (str (a.data.toList ++ 10 :: b.data.toList)).size ≤ maxLen := by
      rw [str_size, List.length_append, List.length_cons, list_size, list_size]
      unfold maxLen
      omega
    have hb12 : Below w.heap.size w w2 := hb1.trans (hb2.mono hb1.size)
    have tk := tokens_any _ w2 hsm (hG.below hb12)
    rw [str_list, HX.out] at tk
    refine tk.mono ?_
    rintro e3 w3 ⟨v3, rfl, ⟨A3, c3, rfl, hx1, hx2, hy3⟩, hb3⟩
    clear tk hsm
    dsimp only at hx1 hx2 hy3 hb3 ⊢
    unfold maxLen at hx2
    have hlb : ((x.length : Int) != l.length + m.length - 1) = false := by rw [bne_eq_false_iff_eq]; omega
    go_wp2_with (fail)
    go_loopw [14] (fun i w4 => ∃ k : Nat, k ≤ x.length ∧ i = .int .i64 k ∧ Below w3.heap.size w3 w4) (fun i _ => x.length - (intOf i).toNat)
    case atStart => exact ⟨0, Nat.zero_le _, rfl, Below.refl _ _⟩
    case round =>
      obtain ⟨k, hk, rfl, hbel⟩ := hrel
      have s2 := hb2.size
      have s3 := hb3.size
      have s4 := hbel.size
      by_cases hlt : k < x.length
      · obtain ⟨b3, o3, rfl, ⟨_, hF3⟩, hz3⟩ := hy3 (by intro e; rw [e] at hlt; simp at hlt)
        obtain ⟨q0, q1, q2, q3⟩ := TokR.below hbel _ _ _ (hz3 k hlt)
        by_cases hcut : k + 1 < l.length
        · have hltl : k < l.length := by omega
          obtain ⟨b1, o1, rfl, ⟨_, hF1⟩, hz1⟩ := hy1 (by intro e; rw [e] at hltl; simp at hltl)
          have hq := TokR.below hbel _ _ _ (TokR.below hb3 _ _ _ (TokR.below hb2 _ _ _ (hz1 k hltl)))
          rw [← HL.out k hlt hcut] at hq
          obtain ⟨p0, p1, p2, p3⟩ := hq
          clear hz1 hz3 hy1 hy2 hy3
          generalize x[k] = t at p0 p1 p2 p3 q0 q1 q2 q3
          have hdc : decide ((k : Int) < (l.length : Int) - 1) = true := by simp; omega
          go_wp2_with (fail)
          have hB := Blk.new wr #[.int .i64 t.kind, .string t.text, .int .i64 t.n, .int .i64 t.at_] 32
          have hL : Below w3.heap.size w3 (wr.alloc (.cells #[.int .i64 t.kind, .string t.text, .int .i64 t.n, .int .i64 t.at_] 32)) := hbel.alloc hbel.size _
          have e0 := cell_past p0 (.cells #[.int .i64 t.kind, .string t.text, .int .i64 t.n, .int .i64 t.at_] 32)
          have e1 := cell_past p1 (.cells #[.int .i64 t.kind, .string t.text, .int .i64 t.n, .int .i64 t.at_] 32)
          have e2 := cell_past p2 (.cells #[.int .i64 t.kind, .string t.text, .int .i64 t.n, .int .i64 t.at_] 32)
          have e3 := cell_past p3 (.cells #[.int .i64 t.kind, .string t.text, .int .i64 t.n, .int .i64 t.at_] 32)
          generalize wr.heap.size = g at hB ⊢
          generalize wr.alloc (.cells #[.int .i64 t.kind, .string t.text, .int .i64 t.n, .int .i64 t.at_] 32) = W at hB hL e0 e1 e2 e3 ⊢
          have k0 := hB.cell 0
          have k1 := hB.cell 1
          have k2 := hB.cell 2
          have k3 := hB.cell 3
          simp only [List.getElem?_toArray, List.getElem?_cons_zero, List.getElem?_cons_succ] at k0 k1 k2 k3
          clear p0 p1 p2 p3 q0 q1 q2 q3
          go_quiet (fail)
          go_wp2
          exact ⟨⟨k + 1, hlt, rfl, below_drewN hL _⟩, by simp [intOf]; omega⟩
        · have hltm : k + 1 - l.length < m.length := by omega
          obtain ⟨b2, o2, rfl, ⟨_, hF2⟩, hz2⟩ := hy2 (by intro e; rw [e] at hltm; simp at hltm)
          obtain ⟨p0, p1, p2, p3⟩ := TokR.below hbel _ _ _ (TokR.below hb3 _ _ _ (hz2 _ hltm))
          rw [HR.out k hlt (by omega) hltm] at q0 q1 q2 q3
          have hat := HPL.out m[k + 1 - l.length] (List.getElem_mem hltm)
          clear hz2 hz3 hy1 hy2 hy3
          unfold shiftT at q0 q1 q2 q3
          obtain ⟨j, hj⟩ : ∃ j, k + 1 - l.length = j := ⟨_, rfl⟩
          have hji : (k : Int) - l.length + 1 = j := by omega
          simp only [hj] at p0 p1 p2 p3 q0 q1 q2 q3 hat hltm
          generalize m[j] = t at p0 p1 p2 p3 q0 q1 q2 q3 hat
          try dsimp only at q0 q1 q2 q3
          have hdc : decide ((k : Int) < (l.length : Int) - 1) = false := by simp; omega
          go_wp2_with (fail)
          have ez : t.at_ + ((a.size : Int) + 1) - a.size - 1 = t.at_ := by omega
          rw [ez]
          clear ez
          have hB := Blk.new wr #[.int .i64 t.kind, .string t.text, .int .i64 t.n, .int .i64 t.at_] 32
          have hL : Below w3.heap.size w3 (wr.alloc (.cells #[.int .i64 t.kind, .string t.text, .int .i64 t.n, .int .i64 t.at_] 32)) := hbel.alloc hbel.size _
          have e0 := cell_past p0 (.cells #[.int .i64 t.kind, .string t.text, .int .i64 t.n, .int .i64 t.at_] 32)
          have e1 := cell_past p1 (.cells #[.int .i64 t.kind, .string t.text, .int .i64 t.n, .int .i64 t.at_] 32)
          have e2 := cell_past p2 (.cells #[.int .i64 t.kind, .string t.text, .int .i64 t.n, .int .i64 t.at_] 32)
          have e3 := cell_past p3 (.cells #[.int .i64 t.kind, .string t.text, .int .i64 t.n, .int .i64 t.at_] 32)
          generalize wr.heap.size = g at hB ⊢
          generalize wr.alloc (.cells #[.int .i64 t.kind, .string t.text, .int .i64 t.n, .int .i64 t.at_] 32) = W at hB hL e0 e1 e2 e3 ⊢
          have k0 := hB.cell 0
          have k1 := hB.cell 1
          have k2 := hB.cell 2
          have k3 := hB.cell 3
          simp only [List.getElem?_toArray, List.getElem?_cons_zero, List.getElem?_cons_succ] at k0 k1 k2 k3
          clear p0 p1 p2 p3 q0 q1 q2 q3 hat
          go_quiet (fail)
          go_wp2
          exact ⟨⟨k + 1, hlt, rfl, below_drewN hL _⟩, by simp [intOf]; omega⟩
      · go_wp2_with (go_at_call 18; refine (known4_any _ ((hG.below hb12).below (hb3.trans (hbel.mono hb3.size)))).mono ?_; rintro e w4 ⟨rfl, hb4⟩)
        go_ret
        exact ⟨rfl, hb12.trans ((hb3.trans ((hbel.trans (hb4.mono hbel.size)).mono hb3.size)).mono hb12.size)⟩
  · go_enter Tryd.func8, Tryd.ntmps8
    by_cases h1 : a.size + b.size ≤ 3000
    · have hgs : decide ((a.size : Int) + b.size > 3000) = false := by simp; omega
      by_cases h2 : er1 = 0
      · subst h2
        have he : (er2 != 0) = true := by rw [bne_iff_ne]; exact fun h => hc ⟨h1, rfl, h⟩
        clear hc
        go_wp2_with (fail)
        refine (T1.out _).mono ?_
        rintro e1 w1 ⟨v1, rfl, hv1, hb1⟩
        go_wp2_with (fail)
        refine (T2.out _).mono ?_
        rintro e2 w2 ⟨v2, rfl, hv2, hb2⟩
        go_wp2_with (fail)
        go_ret
        exact ⟨rfl, hb1.trans (hb2.mono hb1.size)⟩
      · have he : (er1 != 0) = true := by rw [bne_iff_ne]; exact h2
        clear hc
        go_wp2_with (fail)
        refine (T1.out _).mono ?_
        rintro e1 w1 ⟨v1, rfl, hv1, hb1⟩
        go_wp2_with (fail)
        refine (T2.out _).mono ?_
        rintro e2 w2 ⟨v2, rfl, hv2, hb2⟩
        go_wp2_with (fail)
        go_ret
        exact ⟨rfl, hb1.trans (hb2.mono hb1.size)⟩
    · have hgs : decide ((a.size : Int) + b.size > 3000) = true := by simp; omega
      clear hc
      go_wp2_with (fail)
      refine (T1.out _).mono ?_
      rintro e1 w1 ⟨v1, rfl, hv1, hb1⟩
      go_wp2_with (fail)
      refine (T2.out _).mono ?_
      rintro e2 w2 ⟨v2, rfl, hv2, hb2⟩
      go_wp2_with (fail)
      go_ret
      exact ⟨rfl, hb1.trans (hb2.mono hb1.size)⟩
end Go.Proofs.YtakiicbcephbhaaDoor
