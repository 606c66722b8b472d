/- Numbers: what num answers. -/
import Derived.WalkKit
namespace Go.Proofs.YtknfdjnbndfboaaDoor
def isN (n : Int) : Bool := decide (0 ≤ n) && decide (n ≤ 1099511627776)
theorem isN_iff {n : Int} : isN n = true ↔ 0 ≤ n ∧ n ≤ 1099511627776 := by unfold isN; simp
theorem isN_eq (n : Int) : (decide (0 ≤ n) && decide (n ≤ 1099511627776)) = isN n := by unfold isN; rfl
attribute [irreducible] isN
def pairN (n : Int) (b : Bool) : Value := bif b then .tuple #[.int .i64 n, .bool true] else .tuple #[.int .i64 0, .bool false]
def ceilF (a b : Int) : Int := bif decide (a / b * b < a) then a / b + 1 else a / b
theorem isN_add {a b : Int} (ha : isN a = true) (hb : isN b = true) : -9223372036854775808 ≤ a + b ∧ a + b ≤ 9223372036854775807 := by
  rw [isN_iff] at ha hb
  omega
theorem isN_div {a b : Int} (ha : isN a = true) (hb : isN b = true) (h0 : b ≠ 0) : 0 ≤ a / b ∧ a / b ≤ a ∧ 0 ≤ a / b * b ∧ a / b * b ≤ a ∧ a < a / b * b + b := by
  rw [isN_iff] at ha hb
  have h1 := Int.ediv_nonneg ha.1 hb.1
  have h2 := Int.ediv_mul_le a h0
  have h3 : a / b ≤ a := Int.ediv_le_self b ha.1
  have h4 := Int.lt_ediv_add_one_mul_self a (b := b) (by omega)
  rw [Int.add_mul] at h4
  exact ⟨h1, h3, Int.mul_nonneg h1 hb.1, h2, by omega⟩
end Go.Proofs.YtknfdjnbndfboaaDoor
