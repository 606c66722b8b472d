import Derived.Test.YtakiicbcephbhaaDoorProg
import Derived.Test.YtakiicbcephbhaaDoorBase
import Derived.Test.YtakiicbcephbhaaDoorBase2
import Derived.Test.YtakiicbcephbhaaDoorLexM
import Derived.Test.YtakiicbcephbhaaDoorLexP
import Derived.Test.YtakiicbcephbhaaDoorLexQ
import Derived.Test.YtakiicbcephbhaaDoorLex1
import Derived.Test.YtakiicbcephbhaaDoorLex2
import Derived.Test.YtakiicbcephbhaaDoorLex3
import Derived.Test.YtakiicbcephbhaaDoorRef4
import Derived.Test.YtakiicbcephbhaaDoorRef4b
import Derived.Test.YtakiicbcephbhaaDoorLaw4a
import Derived.BigQuiet
import Derived.Deep.QuietTactic
import Derived.RegionCalls
import Derived.Deep.RegionWith
namespace Go.Proofs.YtakiicbcephbhaaDoor
open Go.RowKit
attribute [local go_sem] setCell_twice ByteArray.toList_eq str_list
attribute [local go_sem high] eqTok

theorem note_str (note s : ByteArray) : (⟨#[35]⟩ : ByteArray) ++ note ++ ⟨#[10]⟩ ++ s = str (35 :: note.data.toList ++ 10 :: s.data.toList) := by
  apply ba_ext
  rw [Joins.data_append, Joins.data_append, Joins.data_append, str_list]
  simp

set_option maxHeartbeats 3200000 in
set_option maxRecDepth 100000 in
theorem lexNotes_walk (s note : ByteArray) (w : World) (hs0 : s.size ≤ 140737488351232) (hn0 : note.size ≤ 140737488351232) (hG : GOK w) :
    Calls Tryd.prog 4 #[.string s, .string note] w fun e w' => e = .returned (.bool true) ∧ Below w.heap.size w w' := by
  have t2 := fun (W : World) => tokensR_any s W (by unfold maxLen; omega)
  have pl := fun (ts : List Tok) (p : Nat) (h : tokensL s.data.toList = (ts, p, 0)) => tokens_place h
  have tn := fun (ts : List Tok) (p : Nat) (h : tokensL s.data.toList = (ts, p, 0)) (h1 : s.size ≤ 1000) (h2 : note.size ≤ 100) (h3) => tokens_note note.data.toList s.data.toList ts p h (by rw [list_size]; exact h1) (by rw [list_size]; exact h2) h3
  generalize tokensL s.data.toList = R at t2 pl tn
  obtain ⟨l, p, er⟩ := R
  have T2 := Lib.hid t2; clear t2
  have PL := Lib.hid pl; clear pl
  have TN := Lib.hid tn; clear tn
  by_cases hc : s.size ≤ 1000 ∧ note.size ≤ 100 ∧ er = 0
  · obtain ⟨hc1, hc2, rfl⟩ := hc
    obtain ⟨hp, hpl⟩ := PL.out l p rfl
    rw [list_size] at hp hpl
    subst hp
    have HPL := Lib.hid hpl; clear hpl PL
    have hgs : decide ((s.size : Int) > 1000) = false := by simp; omega
    have hgn : decide ((note.size : Int) > 100) = false := by simp; omega
    go_enter Tryd.func4, Tryd.ntmps4
    go_wp2_with (go_at_call 16; refine (T2.out _).mono ?_; rintro e w1 ⟨v, rfl, ⟨A, c, rfl, hl1, hl2, hx⟩, hb1⟩)
    unfold maxLen at hl2
    go_loopw [8] (fun i wr => ∃ k : Nat, k ≤ note.size ∧ i = .int .i64 k ∧ (∀ c ∈ note.data.toList.take k, c.toNat ≠ 10) ∧ wr = w1) (fun i _ => note.size - (intOf i).toNat)
    case atStart => exact ⟨0, Nat.zero_le _, rfl, by simp, rfl⟩
    case round =>
      obtain ⟨k, hk, rfl, hno, rfl⟩ := hrel
      have HN := Lib.hid hno; clear hno
      by_cases hlt : k < note.size
      · by_cases h10 : note[k].toNat = 10
        · have hb : ((note[k].toNat : Int) == 10) = true := by simp [h10]
          clear h10
          go_wp2_with (fail)
          go_ret
          exact ⟨rfl, hb1⟩
        · have hb : ((note[k].toNat : Int) == 10) = false := by simp; omega
          have H10 := Lib.hid h10; clear h10
          go_wp2_with (fail)
          refine ⟨⟨k + 1, hlt, rfl, ?_, trivial⟩, by simp [intOf]; omega⟩
          intro c hcm
          rw [List.take_succ_eq_append_getElem (by rw [list_size]; exact hlt), List.mem_append, List.mem_singleton] at hcm
          rcases hcm with hcm | rfl
          · exact HN.out c hcm
          · exact H10.out
      · obtain rfl : k = note.size := by omega
        go_wp2_with (fail)
        rw [note_str]
        have hsm : (str (35 :: note.data.toList ++ 10 :: s.data.toList)).size ≤ maxLen := by
          rw [str_size, List.length_append, List.length_cons, List.length_cons, list_size, list_size]
          unfold maxLen
          omega
        have tk := tokens_any _ wr hsm (hG.below hb1)
        rw [str_list, TN.out l s.size rfl hc1 hc2 (by
          intro c hcm
          refine HN.out c ?_
          rw [List.take_of_length_le (by rw [list_size]; exact Nat.le_refl _)]
          exact hcm), list_size] at tk
        have hml : (l.map (shiftT (note.size + 2))).length = l.length := List.length_map _
        have hmx : ∀ i (h : i < l.length) (h' : i < (l.map (shiftT (note.size + 2))).length), (l.map (shiftT (note.size + 2)))[i] = shiftT (note.size + 2) l[i] := fun i h h' => by simp
        generalize l.map (shiftT (note.size + 2)) = m at tk hml hmx
        refine tk.mono ?_
        rintro e w3 ⟨v3, rfl, ⟨A3, c3, rfl, hm1, hm2, hm3⟩, hb3⟩
        clear tk hsm
        dsimp only at hm1 hm2 hm3 hb3 ⊢
        unfold maxLen at hm2
        have hlb : ((m.length : Int) != l.length) = false := by rw [bne_eq_false_iff_eq]; omega
        have HML := Lib.hid hml; clear hml
        have HMX := Lib.hid hmx; clear hmx
        go_wp2_with (fail)
        go_loopw [13] (fun i w4 => ∃ k : Nat, k ≤ l.length ∧ i = .int .i64 k ∧ Below w3.heap.size w3 w4) (fun i _ => l.length - (intOf i).toNat)
        case atStart => exact ⟨0, Nat.zero_le _, rfl, Below.refl _ _⟩
        case round =>
          obtain ⟨k, hk, rfl, hbel⟩ := hrel
          by_cases hlt : k < l.length
          · have hltb : k < m.length := by have := HML.out; omega
            obtain ⟨b1, o1, rfl, ⟨_, hF1⟩, hy1⟩ := hx (by intro e; rw [e] at hlt; simp at hlt)
            obtain ⟨b3, o3, rfl, ⟨_, hF3⟩, hy3⟩ := hm3 (by intro e; rw [e] at hltb; simp at hltb)
            have s3 := hb3.size
            have s4 := hbel.size
            obtain ⟨p0, p1, p2, p3⟩ := TokR.below hbel _ _ _ (TokR.below hb3 _ _ _ (hy1 k hlt))
            have hq := TokR.below hbel _ _ _ (hy3 k hltb)
            rw [HMX.out k hlt hltb] at hq
            obtain ⟨q0, q1, q2, q3⟩ := hq
            have hat := HPL.out l[k] (List.getElem_mem hlt)
            clear hy1 hy3 hx hm3
            unfold shiftT at q0 q1 q2 q3
            generalize l[k] = x at p0 p1 p2 p3 q0 q1 q2 q3 hat
            dsimp only at q0 q1 q2 q3
            go_wp2_with (fail)
            have hB := Blk.new wr #[.int .i64 x.kind, .string x.text, .int .i64 x.n, .int .i64 x.at_] 32
            have hL : Below w3.heap.size w3 (wr.alloc (.cells #[.int .i64 x.kind, .string x.text, .int .i64 x.n, .int .i64 x.at_] 32)) := hbel.alloc hbel.size _
            have e0 := cell_past p0 (.cells #[.int .i64 x.kind, .string x.text, .int .i64 x.n, .int .i64 x.at_] 32)
            have e1 := cell_past p1 (.cells #[.int .i64 x.kind, .string x.text, .int .i64 x.n, .int .i64 x.at_] 32)
            have e2 := cell_past p2 (.cells #[.int .i64 x.kind, .string x.text, .int .i64 x.n, .int .i64 x.at_] 32)
            have e3 := cell_past p3 (.cells #[.int .i64 x.kind, .string x.text, .int .i64 x.n, .int .i64 x.at_] 32)
            generalize wr.heap.size = g at hB ⊢
            generalize wr.alloc (.cells #[.int .i64 x.kind, .string x.text, .int .i64 x.n, .int .i64 x.at_] 32) = W at hB hL e0 e1 e2 e3 ⊢
            have k0 := hB.cell 0
            have k1 := hB.cell 1
            have k2 := hB.cell 2
            have k3 := hB.cell 3
            simp only [List.getElem?_toArray, List.getElem?_cons_zero, List.getElem?_cons_succ] at k0 k1 k2 k3
            clear p0 p1 p2 p3 q0 q1 q2 q3 hat
            go_quiet (fail)
            go_wp2
            exact ⟨⟨k + 1, hlt, rfl, below_drewN hL _⟩, by simp [intOf]; omega⟩
          · go_wp2_with (go_at_call 18; refine (known4_any _ ((hG.below hb1).below (hb3.trans (hbel.mono hb3.size)))).mono ?_; rintro e w4 ⟨rfl, hb4⟩)
            go_ret
            exact ⟨rfl, hb1.trans ((hb3.trans ((hbel.trans (hb4.mono hbel.size)).mono hb3.size)).mono hb1.size)⟩
  · go_enter Tryd.func4, Tryd.ntmps4
    by_cases h1 : s.size ≤ 1000
    · have hgs : decide ((s.size : Int) > 1000) = false := by simp; omega
      by_cases h2 : note.size ≤ 100
      · have hgn : decide ((note.size : Int) > 100) = false := by simp; omega
        have he : (er != 0) = true := by rw [bne_iff_ne]; exact fun h => hc ⟨h1, h2, h⟩
        clear hc
        go_wp2_with (go_at_call 16; refine (T2.out _).mono ?_; rintro e w1 ⟨v, rfl, hv, hb1⟩)
        go_ret
        exact ⟨rfl, hb1⟩
      · have hgn : decide ((note.size : Int) > 100) = true := by simp; omega
        clear hc
        go_wp2_with (go_at_call 16; refine (T2.out _).mono ?_; rintro e w1 ⟨v, rfl, hv, hb1⟩)
        go_ret
        exact ⟨rfl, hb1⟩
    · have hgs : decide ((s.size : Int) > 1000) = true := by simp; omega
      clear hc
      go_wp2_with (go_at_call 16; refine (T2.out _).mono ?_; rintro e w1 ⟨v, rfl, hv, hb1⟩)
      go_ret
      exact ⟨rfl, hb1⟩
end Go.Proofs.YtakiicbcephbhaaDoor
