import Derived.Test.YtakiicbcephbhaaDoorProg
import Derived.Test.YtakiicbcephbhaaDoorBase
import Derived.Test.YtakiicbcephbhaaDoorLexM
import Derived.Test.YtakiicbcephbhaaDoorLex1
import Derived.Test.YtakiicbcephbhaaDoorLex2
import Derived.Test.YtakiicbcephbhaaDoorLex3
import Derived.Test.YtakiicbcephbhaaDoorRef4
import Derived.BigQuiet
import Derived.Deep.QuietTactic
import Derived.RegionCalls
import Derived.Deep.RegionWith
namespace Go.Proofs.YtakiicbcephbhaaDoor
open Go.RowKit
attribute [local go_sem] setCell_twice ByteArray.toList_eq str_list

/-- the frame at the loop's head -/
def RefJ (s : ByteArray) (w : World) (R : List Tok × Nat × Int) (v note i : Value) (w' : World) : Prop :=
  ∃ (acc : List Tok) (at_ f : Nat) (b : Bool), note = .bool b ∧ i = .int .i64 at_ ∧ at_ ≤ s.size ∧ acc.length ≤ at_ ∧ s.size < at_ + f ∧ scanR f at_ b (s.data.toList.drop at_) acc = R ∧ Below w.heap.size w w' ∧ OwnL tokCells w' w.heap.size 32 4 v acc

set_option maxHeartbeats 1600000 in
set_option maxRecDepth 100000 in
theorem tokensR_any (s : ByteArray) (w : World) (hs : s.size ≤ maxLen) :
    Calls Tryd.prog 16 #[.string s] w fun e w' => TokensPost w (tokensL s.data.toList) e w' := by
  rw [← tokensR_eq]
  by_cases hlen : s.size ≤ 4000
  · have hR : tokensR s.data.toList = scanR (s.size + 1) 0 false s.data.toList [] := by unfold tokensR; rw [list_size, if_neg (by omega)]
    rw [hR]
    generalize hR2 : scanR (s.size + 1) 0 false s.data.toList [] = R
    have HR := Lib.hid hR2; clear hR hR2
    go_enter Tryd.func16, Tryd.ntmps16
    go_wp2
    go_loopw [5, 6, 7, 8] (fun v note i _ wr => RefJ s w R v note i wr) (fun _ _ i _ _ => s.size - (intOf i).toNat)
    case atStart => exact ⟨[], 0, s.size + 1, false, rfl, rfl, Nat.zero_le _, Nat.le_refl _, by omega, HR.out, Below.refl _ _, OwnL.nil⟩
    case round =>
      obtain ⟨acc, at_, f, b, rfl, rfl, h1, h2, h3, h4, hb, hown⟩ := hrel
      have HH := Lib.hid h4; clear h4
      obtain ⟨f, rfl⟩ : ∃ m, f = m + 1 := ⟨f - 1, by omega⟩
      by_cases he : at_ = s.size
      · subst he
        go_wp2_with (at_builtin; refine wpList_app1 rfl _ _ 22 rfl w.heap.size 32 _ 4 40 Tryd.underlying22 info_Tok rfl (by decide) tokCells acc _ rfl (hown.alloc _) ⟨4, ⟨#[]⟩, 0, s.size⟩ _ rfl rfl ?c1 ?c2 ?c3 (by decide) ?c5 ?_)
        case c1 => intro j u hu; rw [(Blk.new _ _ _).cell]; simpa [tokCells] using hu
        case c2 => simp [tokCells, Value.oneCell']
        case c3 => omega
        case c5 => have := hb.size; simp; omega
        intro v1 w1 hown1 hg1 hne
        go_wp2
        go_ret3
        have hb1 : Below w.heap.size w w1 := Below.trans hb (((Below.refl _ _).alloc hb.size _).grown hg1 (by have := hb.size; simp; omega) (fun k hk => (hown.lt k hk).1))
        have e : R = (acc ++ [⟨4, ⟨#[]⟩, 0, s.size⟩], s.size, 0) := by
          rw [← HH.out, List.drop_eq_nil_of_le (by rw [list_size]; omega)]
          rfl
        rw [e]
        exact ⟨v1, rfl, hown1.read (fun _ => rfl) (fun b h1 h2 => ⟨h1, h2⟩) (fun b o x _ h => tokR_of w1 b o x h), hb1⟩
      · have hlt : at_ < s.size := by omega
        have hcl : s.data.toList.drop at_ = s[at_] :: s.data.toList.drop (at_ + 1) := by
          have hl : at_ < s.data.toList.length := by rw [list_size]; exact hlt
          rw [List.drop_eq_getElem_cons hl]
          rfl
        have hsc := HH.out
        rw [hcl, scanR] at hsc
        by_cases hn : b = true ∨ (s[at_].toNat : Int) = 35
        · rw [if_pos (by rcases hn with h | h; exact .inl h; exact .inr (by omega))] at hsc
          have HSC := Lib.hid hsc; clear hsc hcl HH
          have hx : ((s[at_].toNat : Int) != 10) = (s[at_].toNat != 10) := by
            rw [Bool.eq_iff_iff, bne_iff_ne, bne_iff_ne]; omega
          have HX := Lib.hid hx; clear hx
          cases b with
          | true =>
            clear hn
            go_wp2
            exact ⟨⟨acc, at_ + 1, f, _, rfl, rfl, by omega, by omega, by omega, by rw [HX.out]; exact HSC.out, hb, hown⟩, by simp [intOf]; omega⟩
          | false =>
            have hn' : ((s[at_].toNat : Int) == 35) = true := by simpa using hn
            clear hn
            go_wp2
            exact ⟨⟨acc, at_ + 1, f, _, rfl, rfl, by omega, by omega, by omega, by rw [HX.out]; exact HSC.out, hb, hown⟩, by simp [intOf]; omega⟩
        · obtain rfl : b = false := by cases b; rfl; exact absurd (.inl rfl) hn
          rw [if_neg (by rintro (h | h); exact absurd h (by simp); exact hn (.inr (by omega)))] at hsc
          have hn' : ((s[at_].toNat : Int) == 35) = false := by simpa using hn
          clear hn
          by_cases hsp : (s[at_].toNat : Int) = 32 ∨ (s[at_].toNat : Int) = 10
          · rw [if_pos (by omega)] at hsc
            have HSC := Lib.hid hsc; clear hsc hcl HH
            have h32 : ((s[at_].toNat : Int) == 32) = true ∨ (((s[at_].toNat : Int) == 32) = false ∧ ((s[at_].toNat : Int) == 10) = true) := by
              rcases hsp with h | h
              · left; simpa using h
              · right; simp; omega
            clear hsp
            rcases h32 with h | ⟨h, h'⟩
            · go_wp2
              exact ⟨⟨acc, at_ + 1, f, _, rfl, rfl, by omega, by omega, by omega, HSC.out, hb, hown⟩, by simp [intOf]; omega⟩
            · go_wp2
              exact ⟨⟨acc, at_ + 1, f, _, rfl, rfl, by omega, by omega, by omega, HSC.out, hb, hown⟩, by simp [intOf]; omega⟩
          · rw [if_neg (by omega)] at hsc
            have h32 : ((s[at_].toNat : Int) == 32) = false := by simp; omega
            have h10 : ((s[at_].toNat : Int) == 10) = false := by simp; omega
            clear hsp
            have hsz : (s.extract at_ s.size).size = s.size - at_ := by rw [← list_size, extract_to_end, List.length_drop, list_size]
            have tk := one_any (s.extract at_ s.size) (by omega) wr (by unfold maxLen at *; omega)
            rw [extract_to_end, hcl] at tk
            cases htk : tokenL (s[at_] :: s.data.toList.drop (at_ + 1)) with
            | none =>
              rw [htk] at tk hsc
              have HSC := Lib.hid hsc; clear hsc htk hcl HH hsz
              go_wp2_with (go_at_call 33; refine tk.mono ?_; rintro e w1 ⟨rfl, hb1⟩)
              go_ret3
              rw [← HSC.out]
              exact ⟨_, rfl, SlR.nil _ _ _ _, (hb.trans (hb1.mono hb.size)).alloc (by have := hb.size; have := hb1.size; omega) _⟩
            | some x =>
              obtain ⟨t, n⟩ := x
              rw [htk] at tk hsc
              have hn1 := tokenL_some htk
              rw [← hcl, List.length_drop, list_size] at hn1
              rw [← hcl] at hsc
              dsimp only at hsc
              rw [List.drop_drop] at hsc
              have HSC := Lib.hid hsc; clear hsc htk hcl HH hsz
              have hn0 : ((n : Int) == 0) = false := by simp; omega
              go_wp2_with (first | (go_at_call 33; refine tk.mono ?_; rintro e w1 ⟨rfl, hb1⟩; have hown1 := Lib.hid (hown.below hb1)) | (at_builtin; refine wpList_app1 rfl _ _ 22 rfl w.heap.size 32 _ 4 40 Tryd.underlying22 info_Tok rfl (by decide) tokCells acc _ rfl ?own { t with at_ := at_ } _ rfl rfl ?d1 ?d2 ?d3 (by decide) ?d5 ?_))
              case own => exact (hown1.out.alloc _).alloc _
              case d1 => intro j u hu; rw [Blk.cell (Blk.new_at _ _ _ _ (by simp))]; simpa [tokCells] using hu
              case d2 => simp [tokCells, Value.oneCell']
              case d3 => omega
              case d5 => have := hb.size; have := hb1.size; simp; omega
              intro v2 w2 hown2 hg2 hne2
              have hs1 := hb.size
              have hs2 := hb1.size
              have hb0 := (((hb.trans (hb1.mono hb.size)).alloc (show w.heap.size ≤ w1.heap.size by omega) (.cells #[.int .i64 t.kind, .string t.text, .int .i64 t.n, .int .i64 at_] 32)).alloc (by simp; omega) (.cells #[.int .i64 t.kind, .string t.text, .int .i64 t.n, .int .i64 at_] 32)).grown hg2 (by simp; omega) (fun k hk => (hown.lt k hk).1)
              go_wp2
              exact ⟨⟨acc ++ [{ t with at_ := at_ }], at_ + n, f, _, rfl, rfl, by omega, by rw [List.length_append, List.length_singleton]; omega, by omega, HSC.out, hb0, hown2⟩, by simp [intOf]; omega⟩
  · have hR : tokensR s.data.toList = ([], 0, 3) := by unfold tokensR; rw [list_size, if_pos (by omega)]
    rw [hR]
    go_enter Tryd.func16, Tryd.ntmps16
    go_wp2
    go_ret3
    exact ⟨_, rfl, SlR.nil _ _ _ _, Below.refl _ _⟩

theorem TokR.keep {F : Nat → Prop} {w w' : World} (h : Keeps F w w') {b o : Nat} {x : Tok} (hb : F b) (hx : TokR w b o x) : TokR w' b o x :=
  ⟨h.cell hb hx.1, h.cell hb hx.2.1, h.cell hb hx.2.2.1, h.cell hb hx.2.2.2⟩

theorem TokR.below {w w' : World} (hb : Below w.heap.size w w') (b o : Nat) (x : Tok) (hx : TokR w b o x) : TokR w' b o x := TokR.keep (Keeps.below hb Any) trivial hx
theorem eqTok (d : Nat) (x y : Tok) (w : World) :
    (Op.equalIn (d + 2) 32 (.agg #[.int .i64 x.kind, .string x.text, .int .i64 x.n, .int .i64 x.at_]) (.agg #[.int .i64 y.kind, .string y.text, .int .i64 y.n, .int .i64 y.at_])).run Tryd.prog w = .ok (decide (x = y)) w := by
  have e : decide (x = y) = (x.kind == y.kind && (x.text.toList == y.text.toList && (x.n == y.n && (x.at_ == y.at_ && true)))) := by
    rw [Bool.eq_iff_iff]
    simp only [decide_eq_true_eq, Bool.and_eq_true, beq_iff_eq, ByteArray.toList_eq, and_true]
    constructor
    · rintro rfl; exact ⟨rfl, rfl, rfl, rfl⟩
    · intro ⟨h1, h2, h3, h4⟩
      cases x; cases y
      simp only [Tok.mk.injEq]
      exact ⟨h1, ba_ext h2, h3, h4⟩
  rw [e]
  refine eqs_of Tryd.underlying32 (by kernel_rfl) ?_
  refine eqs_cons (by decide) (by go_simp; rfl) (by go_simp; rfl) (by go_simp) ?_
  refine eqs_cons (by decide) (by go_simp; rfl) (by go_simp; rfl) (by go_simp) ?_
  refine eqs_cons (by decide) (by go_simp; rfl) (by go_simp; rfl) (by go_simp) ?_
  refine eqs_cons (by decide) (by go_simp; rfl) (by go_simp; rfl) (by go_simp) ?_
  exact eqs_nil
attribute [local go_sem high] eqTok

set_option maxHeartbeats 1600000 in
set_option maxRecDepth 100000 in
theorem sameR_any (F G : Nat → Prop) (va vb : Value) (xs ys : List Tok) (r : Bool) (hr : decide (xs = ys) = r) (w : World) (ha : SlR TokR 4 F w va xs) (hb : SlR TokR 4 G w vb ys) :
    Calls Tryd.prog 17 #[va, vb] w fun e w' => e = .returned (.bool r) ∧ Below w.heap.size w w' := by
  obtain ⟨A, ca, rfl, ha1, ha2, ha3⟩ := ha
  obtain ⟨B, cb, rfl, hb1, hb2, hb3⟩ := hb
  have HR := Lib.hid hr; clear hr
  unfold maxLen at ha2 hb2
  by_cases hl : xs.length = ys.length
  · have hlb : ((xs.length : Int) != ys.length) = false := by rw [bne_eq_false_iff_eq]; omega
    have HL := Lib.hid hl; clear hl
    go_enter Tryd.func17, Tryd.ntmps17
    go_wp2
    go_loopw [5] (fun i wr => ∃ k : Nat, k ≤ xs.length ∧ i = .int .i64 k ∧ xs.take k = ys.take k ∧ Below w.heap.size w wr) (fun i _ => xs.length - (intOf i).toNat)
    case atStart => exact ⟨0, Nat.zero_le _, rfl, rfl, Below.refl _ _⟩
    case round =>
      obtain ⟨k, hk, rfl, hpre, hbel⟩ := hrel
      have HP := Lib.hid hpre; clear hpre
      by_cases hlt : k < xs.length
      · have hltb : k < ys.length := by have := HL.out; omega
        obtain ⟨b1, o1, rfl, _, hx⟩ := ha3 (by intro e; rw [e] at hlt; simp at hlt)
        obtain ⟨b2, o2, rfl, _, hy⟩ := hb3 (by intro e; rw [e] at hltb; simp at hltb)
        have K1 : Keeps Any w wr := Keeps.below hbel _
        obtain ⟨p0, p1, p2, p3⟩ := TokR.keep K1 trivial (hx k hlt)
        obtain ⟨q0, q1, q2, q3⟩ := TokR.keep K1 trivial (hy k hltb)
        clear hx hy ha3 hb3
        generalize hxe : xs[k] = x at p0 p1 p2 p3
        generalize hye : ys[k] = y at q0 q1 q2 q3
        have HX := Lib.hid hxe; clear hxe
        have HY := Lib.hid hye; clear hye
        by_cases hxy : x = y
        · have hB : decide (x = y) = true := by simpa using hxy
          have HXY := Lib.hid hxy; clear hxy
          go_wp2
          go_quiet (fail)
          go_wp2
          exact ⟨⟨k + 1, hlt, rfl, take_eq_step hlt hltb HP.out (by rw [HX.out, HY.out]; exact HXY.out), below_drewN hbel _⟩, by simp [intOf]; omega⟩
        · have hB : decide (x = y) = false := by simpa using hxy
          have HXY := Lib.hid hxy; clear hxy
          go_wp2
          go_quiet (fail)
          go_wp2
          go_ret
          have e : r = false := by
            rw [← HR.out, decide_eq_false_iff_not]
            rintro rfl
            exact HXY.out (by rw [← HX.out, ← HY.out])
          exact ⟨by rw [e]; rfl, below_drewN hbel _⟩
      · have e : r = true := by
          rw [← HR.out, decide_eq_true_eq]
          obtain rfl : k = xs.length := by omega
          exact take_eq_end HL.out HP.out
        have HE := Lib.hid e; clear e
        go_wp2
        go_ret
        exact ⟨by rw [HE.out]; rfl, hbel⟩
  · have e : r = false := by
      rw [← HR.out, decide_eq_false_iff_not]
      rintro rfl
      exact hl rfl
    have hlb : ((xs.length : Int) != ys.length) = true := by rw [bne_iff_ne]; omega
    have HE := Lib.hid e; clear e hl
    go_enter Tryd.func17, Tryd.ntmps17
    go_wp2
    go_ret
    exact ⟨by rw [HE.out]; rfl, Below.refl _ _⟩
end Go.Proofs.YtakiicbcephbhaaDoor
