import Derived.Test.YtenamokjbbiecaaProg
import Derived.Test.YtenamokjbbiecaaBase
import Derived.Test.YtenamokjbbiecaaLexM
import Derived.Test.YtenamokjbbiecaaLex1
import Derived.Test.YtenamokjbbiecaaLex2
import Derived.Test.YtenamokjbbiecaaShelf
import Derived.BigQuiet
import Derived.Deep.QuietTactic
import Derived.RegionCalls
import Derived.Deep.RegionWith
namespace Go.Proofs.Ytenamokjbbiecaa
open Go.RowKit
set_option linter.unusedSimpArgs false
attribute [local go_sem] setCell_twice

def TokR : World → Nat → Nat → Tok → Prop := fun w b o t => w.cell? ⟨b, o, none⟩ = some (.int .i64 t.kind) ∧ w.cell? ⟨b, o + 1, none⟩ = some (.string t.text) ∧ w.cell? ⟨b, o + 2, none⟩ = some (.int .i64 t.n) ∧ w.cell? ⟨b, o + 3, none⟩ = some (.int .i64 t.at_)

theorem info_Tok : (Try.prog.info? 125).map (fun i => (i.zero, i.size, i.bytes)) = some (some (.agg #[.int .i64 0, .string ⟨#[]⟩, .int .i64 0, .int .i64 0]), 4, 40) := by kernel_rfl
theorem tokR_of (w : World) (b o : Nat) (x : Tok) (h : ∀ j u, (tokCells x)[j]? = some u → w.cell? ⟨b, o + j, none⟩ = some u) : TokR w b o x :=
  ⟨h 0 _ rfl, h 1 _ rfl, h 2 _ rfl, h 3 _ rfl⟩
/-- the frame at the label: what is gathered, the place -/
def LexJ (s : ByteArray) (w : World) (R : List Tok × Nat × Int) (a : Act) (w' : World) : Prop :=
  ∃ (v : Value) (acc : List Tok) (at_ f : Nat) (u6 u7 u8 u9 u10 u11 u12 u13 u14 u15 u16 u17 u18 u19 u20 u21 u22 u23 u24 u25 u26 u27 u28 u29 u30 u31 u32 u33 u34 u35 u36 u37 u38 u39 u40 u41 u42 u43 u44 u45 u46 u47 u48 u49 : Value) (c0 c1 c2 c3 : Value),
    a = { tmps := #[.string s, undef, v, .int .i64 at_, .int .i64 0, .pointer (some ⟨w.heap.size, 0, none⟩), u6, u7, u8, u9, u10, u11, u12, u13, u14, u15, u16, u17, u18, u19, u20, u21, u22, u23, u24, u25, u26, u27, u28, u29, u30, u31, u32, u33, u34, u35, u36, u37, u38, u39, u40, u41, u42, u43, u44, u45, u46, u47, u48, u49], defers := [] } ∧
    at_ ≤ s.size ∧ acc.length ≤ at_ ∧ s.size < at_ + f ∧ scan f at_ (s.data.toList.drop at_) acc = R ∧ Below w.heap.size w w' ∧ w.heap.size < w'.heap.size ∧ Blk w' w.heap.size #[c0, c1, c2, c3] 125 ∧
    OwnL tokCells w' (w.heap.size + 1) 125 4 v acc

def TokensPost (w : World) : List Tok × Nat × Int → Ending → World → Prop := fun R e w' =>
  ∃ v, e = .returned (.tuple #[v, .int .i64 R.2.1, .int .i64 R.2.2]) ∧ SlR TokR 4 (fun b => w.heap.size ≤ b ∧ b < w'.heap.size) w' v R.1 ∧ Below w.heap.size w w'

end Go.Proofs.Ytenamokjbbiecaa
