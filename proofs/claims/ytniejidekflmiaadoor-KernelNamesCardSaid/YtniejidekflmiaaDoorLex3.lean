import Derived.Test.YtniejidekflmiaaDoorProg
import Derived.Test.YtniejidekflmiaaDoorBase
import Derived.Test.YtniejidekflmiaaDoorLexM
import Derived.Test.YtniejidekflmiaaDoorLex1
import Derived.Test.YtniejidekflmiaaDoorLex2
import Derived.Test.YtniejidekflmiaaDoorShelf
import Derived.BigQuiet
import Derived.Deep.QuietTactic
import Derived.RegionCalls
import Derived.Deep.RegionWith
namespace Go.Proofs.YtniejidekflmiaaDoor
open Go.RowKit
set_option linter.unusedSimpArgs false
attribute [local go_sem] setCell_twice

def TokR : World → Nat → Nat → Tok → Prop := fun w b o t => w.cell? ⟨b, o, none⟩ = some (.int .i64 t.kind) ∧ w.cell? ⟨b, o + 1, none⟩ = some (.string t.text) ∧ w.cell? ⟨b, o + 2, none⟩ = some (.int .i64 t.n) ∧ w.cell? ⟨b, o + 3, none⟩ = some (.int .i64 t.at_)

theorem info_Tok : (Tryd.prog.info? 91).map (fun i => (i.zero, i.size, i.bytes)) = some (some (.agg #[.int .i64 0, .string ⟨#[]⟩, .int .i64 0, .int .i64 0]), 4, 40) := by kernel_rfl
theorem tokR_of (w : World) (b o : Nat) (x : Tok) (h : ∀ j u, (tokCells x)[j]? = some u → w.cell? ⟨b, o + j, none⟩ = some u) : TokR w b o x :=
  ⟨h 0 _ rfl, h 1 _ rfl, h 2 _ rfl, h 3 _ rfl⟩
/-- the frame at the label: what is gathered, the place -/
def LexJ (s : ByteArray) (w : World) (R : List Tok × Nat × Int) (a : Act) (w' : World) : Prop :=
  ∃ (v : Value) (acc : List Tok) (at_ f : Nat) (u6 u7 u8 u9 u10 u11 u12 u13 u14 u15 u16 u17 u18 u19 u20 u21 u22 u23 u24 u25 u26 u27 u28 u29 u30 u31 u32 u33 u34 u35 u36 u37 u38 u39 u40 u41 u42 u43 u44 u45 u46 u47 u48 u49 : Value) (c0 c1 c2 c3 : Value),
    a = { tmps := #[.string s, undef, v, .int .i64 at_, .int .i64 0, .pointer (some ⟨w.heap.size, 0, none⟩), u6, u7, u8, u9, u10, u11, u12, u13, u14, u15, u16, u17, u18, u19, u20, u21, u22, u23, u24, u25, u26, u27, u28, u29, u30, u31, u32, u33, u34, u35, u36, u37, u38, u39, u40, u41, u42, u43, u44, u45, u46, u47, u48, u49], defers := [] } ∧
    at_ ≤ s.size ∧ acc.length ≤ at_ ∧ s.size < at_ + f ∧ scan f at_ (s.data.toList.drop at_) acc = R ∧ Below w.heap.size w w' ∧ w.heap.size < w'.heap.size ∧ Blk w' w.heap.size #[c0, c1, c2, c3] 91 ∧
    OwnL tokCells w' (w.heap.size + 1) 91 4 v acc

def TokensPost (w : World) : List Tok × Nat × Int → Ending → World → Prop := fun R e w' =>
  ∃ v, e = .returned (.tuple #[v, .int .i64 R.2.1, .int .i64 R.2.2]) ∧ SlR TokR 4 (fun b => w.heap.size ≤ b ∧ b < w'.heap.size) w' v R.1 ∧ Below w.heap.size w w'

set_option maxHeartbeats 1600000 in
set_option maxRecDepth 100000 in
theorem tokens_any (s : ByteArray) (w : World) (hs : s.size ≤ maxLen) (hG : GOK w) :
    Calls Tryd.prog 86 #[.string s] w fun e w' => TokensPost w (tokensL s.data.toList) e w' := by
  by_cases hlen : s.size ≤ 4000
  · have hR : tokensL s.data.toList = scan (s.size + 1) 0 s.data.toList [] := by unfold tokensL; rw [list_size, if_neg (by omega)]
    rw [hR]
    generalize hR2 : scan (s.size + 1) 0 s.data.toList [] = R
    have HR := Lib.hid hR2; clear hR hR2
    go_enter Tryd.func86, Tryd.ntmps86
    go_wp2
    refine wp_scope_label 0 (LexJ s w R) (fun a' _ => s.size - (intOf (a'.tmps.getD 3 undef)).toNat) rfl ?_ ?_
    · intro hp
      have HP := Lib.hid hp; clear hp
      go_wp2
      go_step3
      go_step
      go_step
      refine HP.out _ _ ⟨_, [], 0, s.size + 1, _, _, _, _, _, _, _, _, _, _, _, _, _, _, _, _, _, _, _, _, _, _, _, _, _, _, _, _, _, _, _, _, _, _, _, _, _, _, _, _, _, _, _, _, _, _, _, _, rfl, Nat.zero_le _, Nat.le_refl _, by omega, HR.out, (by repeat (first | exact Below.refl _ _ | assumption | refine Below.drew ?_ | refine Below.alloc ?_ (by first | (simp; done) | (simp; omega) | omega) _ | refine Below.setCell ?_ (by first | (simp; done) | (simp; omega) | omega) _)), (by first | (simp; done) | (simp; omega) | omega), Blk.new _ _ _, OwnL.nil⟩
    · rintro a' w' ⟨v, acc, at_, f, u6, u7, u8, u9, u10, u11, u12, u13, u14, u15, u16, u17, u18, u19, u20, u21, u22, u23, u24, u25, u26, u27, u28, u29, u30, u31, u32, u33, u34, u35, u36, u37, u38, u39, u40, u41, u42, u43, u44, u45, u46, u47, u48, u49, c0, c1, c2, c3, rfl, h1, h2, h3, h4, hb, hz, hB, hown⟩
      have HH := Lib.hid h4; clear h4
      have cB := hB.cell; have fB := hB.free
      obtain ⟨f, rfl⟩ : ∃ m, f = m + 1 := ⟨f - 1, by omega⟩
      have hlt3 : w.heap.size + 1 ≤ w'.heap.size := hz
      by_cases he : at_ = s.size
      · subst he
        go_wp2_with (at_builtin; refine wpList_app1 rfl _ _ 139 rfl (w.heap.size + 1) 91 _ 4 40 Tryd.underlying139 info_Tok rfl (by decide) tokCells acc _ rfl (hown.alloc _) ⟨4, ⟨#[]⟩, 0, s.size⟩ _ rfl rfl ?c1 ?c2 ?c3 (by decide) ?c5 ?_)
        case c1 => intro j u hu; rw [(Blk.new _ _ _).cell]; simpa [tokCells] using hu
        case c2 => simp [tokCells, Value.oneCell']
        case c3 => omega
        case c5 => simp; omega
        intro v1 w1 hown1 hg1 hne
        go_wp2
        simp only [Exit.jump]
        go_ret3
        have hb1 : Below w.heap.size w w1 := Below.trans hb (((Below.refl _ _).alloc (by omega) _).grown hg1 (by simp; omega) (fun k hk => by have := hown.lt k hk; omega))
        have e : R = (acc ++ [⟨4, ⟨#[]⟩, 0, s.size⟩], s.size, 0) := by
          rw [← HH.out, List.drop_eq_nil_of_le (by rw [list_size]; omega)]
          rfl
        rw [e]
        refine ⟨v1, rfl, ?_, hb1⟩
        exact hown1.read (fun _ => rfl) (fun b h1 h2 => ⟨by omega, h2⟩) (fun b o x _ h => tokR_of w1 b o x h)
      · have hlt : at_ < s.size := by omega
        have hG' := hG.below hb
        have hsz : (s.extract at_ s.size).size = s.size - at_ := by rw [← list_size, extract_to_end, List.length_drop, list_size]
        have HS := Lib.hid hsz
        have gp := gap_any (s.extract at_ s.size) (by omega) w' (by unfold maxLen at *; omega)
        have gl := gapL_le (s.data.toList.drop at_)
        rw [extract_to_end] at gp
        rw [List.length_drop, list_size] at gl
        obtain ⟨c, l, hcl⟩ : ∃ c l, s.data.toList.drop at_ = c :: l := by
          cases hd : s.data.toList.drop at_ with
          | nil => have := congrArg List.length hd; rw [List.length_drop, list_size] at this; simp at this; omega
          | cons c l => exact ⟨c, l, rfl⟩
        have HCL := Lib.hid hcl; clear hcl
        by_cases hg : 0 < gapL (s.data.toList.drop at_)
        · have hsc : scan f (at_ + gapL (s.data.toList.drop at_)) (s.data.toList.drop (at_ + gapL (s.data.toList.drop at_))) acc = R := by
            rw [← HH.out, ← List.drop_drop]
            generalize s.data.toList.drop at_ = L at hg HCL
            rw [HCL.out] at hg ⊢
            rw [scan, if_pos hg]
          have HSC := Lib.hid hsc; clear hsc
          generalize gapL (s.data.toList.drop at_) = g at *
          go_wp2_with (first | (go_at_call 89; refine gp.mono ?_; rintro e w1 ⟨rfl, rfl⟩))
          go_step3
          refine (show 0 = 0 ∧ LexJ s w R _ _ ∧ _ from ⟨rfl, ⟨v, acc, at_ + g, f, _, _, _, _, _, _, _, _, _, _, _, _, _, _, _, _, _, _, _, _, _, _, _, _, _, _, _, _, _, _, _, _, _, _, _, _, _, _, _, _, _, _, _, _, _, _, _, _, rfl, by omega, by omega, by omega, HSC.out, hb, hz, hB, hown⟩, ?_⟩)
          simp [intOf]
          omega
        · have hg0 : gapL (s.data.toList.drop at_) = 0 := by omega
          rw [hg0] at gp
          have tk := token_any (s.extract at_ s.size) (by omega) w' (by unfold maxLen at *; omega) hG'
          rw [extract_to_end] at tk
          have hsc : (tokenL (s.data.toList.drop at_) = none → R = ([], at_, 2)) ∧ ∀ t n, tokenL (s.data.toList.drop at_) = some (t, n) → scan f (at_ + n) (s.data.toList.drop (at_ + n)) (acc ++ [{ t with at_ := at_ }]) = R := by
            rw [← HH.out]
            simp only [← List.drop_drop]
            generalize s.data.toList.drop at_ = L at hg HCL
            rw [HCL.out] at hg ⊢
            rw [scan, if_neg hg]
            constructor
            · intro h; rw [h]
            · intro t n h; rw [h]
          clear gl hg hg0 HCL
          cases htk : tokenL (s.data.toList.drop at_) with
          | none =>
            rw [htk] at tk
            have HSC := Lib.hid (hsc.1 htk); clear hsc htk
            go_wp2_with (first | (go_at_call 89; refine gp.mono ?_; rintro e w1 ⟨rfl, rfl⟩) | (go_at_call 90; refine tk.mono ?_; rintro e w1 ⟨⟨t, n, rfl⟩, hb1⟩; have hB1 := (hB).below hb1 (by first | (simp; done) | (simp; omega) | omega); have cB1 := hB1.cell; have fB1 := hB1.free))
            simp only [Exit.jump]
            go_ret3
            rw [HSC.out]
            exact ⟨_, rfl, SlR.nil _ _ _ _, (((((hb.trans (hb1.mono hb.size)).setCell (by simp) _).setCell (by simp) _).setCell (by simp) _).setCell (by simp) _)⟩
          | some x =>
            obtain ⟨t, n⟩ := x
            rw [htk] at tk
            have hn := tokenL_some htk
            rw [List.length_drop, list_size] at hn
            have HSC := Lib.hid (hsc.2 t n htk); clear hsc htk
            go_wp2_with (first | (go_at_call 89; refine gp.mono ?_; rintro e w1 ⟨rfl, rfl⟩) | (go_at_call 90; refine tk.mono ?_; rintro e w1 ⟨rfl, hb1⟩; have hB1 := (hB).below hb1 (by first | (simp; done) | (simp; omega) | omega); have cB1 := hB1.cell; have fB1 := hB1.free; have hown1 := Lib.hid (hown.below hb1)) | (at_builtin; refine wpList_app1 rfl _ _ 139 rfl (w.heap.size + 1) 91 _ 4 40 Tryd.underlying139 info_Tok rfl (by decide) tokCells acc _ rfl ?own { t with at_ := at_ } _ rfl rfl ?c1 ?c2 ?c3 (by decide) ?c5 ?_))
            case own => exact ((((((hown1.out.set (fun hk => by have := hown.lt _ hk; simp at this; omega) _).set (fun hk => by have := hown.lt _ hk; simp at this; omega) _).set (fun hk => by have := hown.lt _ hk; simp at this; omega) _).set (fun hk => by have := hown.lt _ hk; simp at this; omega) _)).alloc _)
            case c1 => intro j u hu; rw [Blk.cell (Blk.new_at _ _ _ _ (by simp))]; simpa [tokCells] using hu
            case c2 => simp [tokCells, Value.oneCell']
            case c3 => omega
            case c5 => have := hb1.size; simp; omega
            intro v2 w2 hown2 hg2 hne2
            have hb0 : Below w.heap.size w (((((w1.setCell ⟨w.heap.size, 0, none⟩ (.int .i64 t.kind)).setCell ⟨w.heap.size, 1, none⟩ (.string t.text)).setCell ⟨w.heap.size, 2, none⟩ (.int .i64 t.n)).setCell ⟨w.heap.size, 3, none⟩ (.int .i64 at_)).alloc (.cells #[.int .i64 t.kind, .string t.text, .int .i64 t.n, .int .i64 at_] 91)) :=
              (((((hb.trans (hb1.mono hb.size)).setCell (by simp) _).setCell (by simp) _).setCell (by simp) _).setCell (by simp) _).alloc (by have := hb1.size; simp; omega) _
            have hb2 := hb0.grown hg2 (by have := hb1.size; simp; omega) (fun k hk => by have := hown.lt k hk; omega)
            have hB2 : Blk w2 w.heap.size #[.int .i64 t.kind, .string t.text, .int .i64 t.n, .int .i64 at_] 91 :=
              (((((hB1.set 0 _).set 1 _).set 2 _).set 3 _).alloc _).grown hg2 (fun hk => by have := hown.lt _ hk; omega)
            have hz2 : w.heap.size < w2.heap.size := hB2.lt
            go_wp2
            go_step3
            refine (show 0 = 0 ∧ LexJ s w R _ _ ∧ _ from ⟨rfl, ⟨v2, acc ++ [{ t with at_ := at_ }], at_ + n, f, _, _, _, _, _, _, _, _, _, _, _, _, _, _, _, _, _, _, _, _, _, _, _, _, _, _, _, _, _, _, _, _, _, _, _, _, _, _, _, _, _, _, _, _, _, _, _, _, rfl, by omega, by rw [List.length_append, List.length_singleton]; omega, by omega, HSC.out, hb2, hz2, hB2, hown2⟩, ?_⟩)
            simp [intOf]
            omega
  · have hR : tokensL s.data.toList = ([], 0, 3) := by unfold tokensL; rw [list_size, if_pos (by omega)]
    rw [hR]
    go_enter Tryd.func86, Tryd.ntmps86
    go_wp2
    go_step3
    go_wp2
    try rw [Exit.noGoto_ret]
    go_ret3
    exact ⟨_, rfl, SlR.nil _ _ _ _, (by repeat (first | exact Below.refl _ _ | assumption | refine Below.drew ?_ | refine Below.alloc ?_ (by first | (simp; done) | (simp; omega) | omega) _ | refine Below.setCell ?_ (by first | (simp; done) | (simp; omega) | omega) _))⟩
end Go.Proofs.YtniejidekflmiaaDoor
