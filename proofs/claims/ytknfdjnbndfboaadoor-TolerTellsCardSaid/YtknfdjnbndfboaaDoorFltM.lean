/- Whole numbers as float64: there and back. -/
import Derived.WalkKit
import Derived.Laws.FloatArith
namespace Go.Proofs.YtknfdjnbndfboaaDoor
open Ieee

theorem cut_zero (neg : Bool) (n : Nat) : Toward.even.cut neg n 0 = n := by
  simp [Toward.cut, Nat.mod_one]
/-- the word of a whole number -/
def fl (n : Nat) : Nat := Format.write double (.number false n 0)
theorem fl_zero : fl 0 = 0 := by decide +kernel
theorem fl_log {n : Nat} (h0 : 0 < n) (h : n ≤ 1099511627776) : n.log2 ≤ 40 ∧ 2 ^ n.log2 ≤ n ∧ n < 2 ^ (n.log2 + 1) := by
  have h1 : n.log2 < 41 := (Nat.log2_lt (by omega)).2 (Nat.lt_of_le_of_lt h (by decide))
  exact ⟨by omega, Nat.log2_self_le (by omega), Nat.lt_log2_self⟩
/-- scaled: a number of 53 digits -/
theorem fl_mag {n : Nat} (h0 : 0 < n) (h : n ≤ 1099511627776) : 4503599627370496 ≤ n * 2 ^ (52 - n.log2) ∧ n * 2 ^ (52 - n.log2) < 9007199254740992 := by
  obtain ⟨hL, h1, h2⟩ := fl_log h0 h
  have e : (2 : Nat) ^ n.log2 * 2 ^ (52 - n.log2) = 4503599627370496 := by rw [← Nat.pow_add, show n.log2 + (52 - n.log2) = 52 by omega]
  have e2 : (2 : Nat) ^ (n.log2 + 1) * 2 ^ (52 - n.log2) = 9007199254740992 := by rw [← Nat.pow_add, show n.log2 + 1 + (52 - n.log2) = 53 by omega]
  have hp : 0 < 2 ^ (52 - n.log2) := Nat.two_pow_pos _
  exact ⟨by rw [← e]; exact Nat.mul_le_mul_right _ h1, by rw [← e2]; exact Nat.mul_lt_mul_of_pos_right h2 hp⟩
theorem fl_word {n : Nat} (h0 : 0 < n) (h : n ≤ 1099511627776) : fl n = (n.log2 + 1022) * 4503599627370496 + n * 2 ^ (52 - n.log2) := by
  obtain ⟨hL, _, _⟩ := fl_log h0 h
  obtain ⟨hm1, hm2⟩ := fl_mag h0 h
  have hlp : double.leastPlace = -1074 := by decide
  have hb : double.binade = 4503599627370496 := by decide
  have hi : double.infRung = 9218868437227405312 := by decide
  show (if n = 0 then double.word false 0 else double.word false (min ((max ((0 : Int) + (n.log2 : Nat) - (double.fractionBits : Nat)) double.leastPlace - double.leastPlace).toNat * double.binade + Toward.even.cut false (n <<< ((0 : Int) - max ((0 : Int) + (n.log2 : Nat) - (double.fractionBits : Nat)) double.leastPlace).toNat) (max ((0 : Int) + (n.log2 : Nat) - (double.fractionBits : Nat)) double.leastPlace - 0).toNat) double.infRung)) = _
  rw [if_neg (by omega), hlp, hb, hi, show double.fractionBits = 52 from rfl]
  have e1 : max ((0 : Int) + (n.log2 : Nat) - (52 : Nat)) (-1074) = (n.log2 : Int) - 52 := by omega
  rw [e1]
  rw [show ((n.log2 : Int) - 52 - 0).toNat = 0 by omega, cut_zero, show ((0 : Int) - ((n.log2 : Int) - 52)).toNat = 52 - n.log2 by omega, show ((n.log2 : Int) - 52 - -1074).toNat = n.log2 + 1022 by omega, Nat.shiftLeft_eq]
  unfold Format.word
  simp only [Bool.false_eq_true, if_false]
  omega
theorem fl_read {n : Nat} (h0 : 0 < n) (h : n ≤ 1099511627776) : Format.read double (fl n) = .number false (n * 2 ^ (52 - n.log2)) ((n.log2 : Int) - 52) := by
  obtain ⟨hL, _, _⟩ := fl_log h0 h
  obtain ⟨hm1, hm2⟩ := fl_mag h0 h
  rw [fl_word h0 h]
  have hlp : double.leastPlace = -1074 := by decide
  have hb : double.binade = 4503599627370496 := by decide
  have hi : double.infRung = 9218868437227405312 := by decide
  have hs : double.signWeight = 9223372036854775808 := by decide
  generalize n * 2 ^ (52 - n.log2) = m at *
  generalize n.log2 = L at *
  unfold Format.read
  simp only [hlp, hb, hi, hs]
  have d1 : ((L + 1022) * 4503599627370496 + m) / 9223372036854775808 = 0 := by omega
  have d2 : ((L + 1022) * 4503599627370496 + m) % 9223372036854775808 = (L + 1022) * 4503599627370496 + m := by omega
  rw [d1, d2, if_neg (by omega), if_pos (by omega)]
  have d3 : ((L + 1022) * 4503599627370496 + m) % 4503599627370496 = m - 4503599627370496 := by omega
  have d4 : ((L + 1022) * 4503599627370496 + m) / 4503599627370496 = L + 1023 := by omega
  rw [d3, d4]
  simp only [Datum.number.injEq]
  refine ⟨by decide, by omega, by omega⟩
theorem fl_whole {n : Nat} (h : n ≤ 1099511627776) : (Format.read double (fl n)).integral .zero = .number false n 0 := by
  rcases Nat.eq_zero_or_pos n with rfl | h0
  · decide +kernel
  · rw [fl_read h0 h]
    obtain ⟨hL, _, _⟩ := fl_log h0 h
    obtain ⟨hm1, hm2⟩ := fl_mag h0 h
    show Datum.number false (Toward.zero.cut false ((n * 2 ^ (52 - n.log2)) <<< ((n.log2 : Int) - 52).toNat) (-((n.log2 : Int) - 52)).toNat) 0 = _
    rw [show ((n.log2 : Int) - 52).toNat = 0 by omega, show (-((n.log2 : Int) - 52)).toNat = 52 - n.log2 by omega, Nat.shiftLeft_zero]
    have hl : 52 ≤ (n * 2 ^ (52 - n.log2)).log2 := (Nat.le_log2 (by omega)).2 (Nat.le_trans (by decide) hm1)
    show Datum.number false (n * 2 ^ (52 - n.log2) / (1 <<< min (52 - n.log2) ((n * 2 ^ (52 - n.log2)).log2 + 2)) + 0) 0 = _
    rw [Nat.min_eq_left (by omega), Nat.shiftLeft_eq, Nat.one_mul, Nat.mul_div_cancel _ (Nat.two_pow_pos _), Nat.add_zero]
theorem fl_trunc {n : Nat} (h : n ≤ 1099511627776) : FloatKind.f64.encode ((FloatKind.f64.decode (fl n)).integral .zero) = fl n := by
  show Format.write double ((Format.read double (fl n)).integral .zero) = fl n
  rw [fl_whole h]
  rfl
theorem fl_int {n : Nat} (h : n ≤ 1099511627776) : (FloatKind.f64.decode (fl n)).toInt .zero = some (n : Int) := by
  show (match (Format.read double (fl n)).integral .zero with | .number s m _ => some (signed s m 0) | _ => none) = _
  rw [fl_whole h]
  simp [signed]
theorem fl_scaled {n : Nat} (h : n ≤ 1099511627776) : ∃ m i, Format.read double (fl n) = .number false m i ∧ -1074 ≤ i ∧ ∀ base : Int, base ≤ i → -1074 ≤ base → m <<< (i - base).toNat = n * 2 ^ (-base).toNat := by
  rcases Nat.eq_zero_or_pos n with rfl | h0
  · exact ⟨0, -1074, by decide +kernel, by omega, fun base h1 h2 => by simp [Nat.shiftLeft_eq]⟩
  · obtain ⟨hL, _, _⟩ := fl_log h0 h
    refine ⟨_, _, fl_read h0 h, by omega, fun base h1 h2 => ?_⟩
    rw [Nat.shiftLeft_eq, Nat.mul_assoc, ← Nat.pow_add]
    congr 2
    omega
theorem fl_order {a b : Nat} (ha : a ≤ 1099511627776) (hb : b ≤ 1099511627776) : double.order (fl a) (fl b) = some (compare a b) := by
  obtain ⟨m, i, e1, i1, h1⟩ := fl_scaled ha
  obtain ⟨k, j, e2, j1, h2⟩ := fl_scaled hb
  unfold Format.order
  rw [e1, e2]
  show some (compare ((m <<< (i - min i j).toNat : Nat) : Int) ((k <<< (j - min i j).toNat : Nat) : Int)) = _
  rw [h1 (min i j) (by omega) (by omega), h2 (min i j) (by omega) (by omega)]
  have hp : 0 < 2 ^ (-min i j).toNat := Nat.two_pow_pos _
  generalize 2 ^ (-min i j).toNat = c at *
  congr 1
  rcases Nat.lt_trichotomy a b with h | rfl | h
  · have h3 : a * c < b * c := Nat.mul_lt_mul_of_pos_right h hp
    rw [show compare a b = .lt from Nat.compare_eq_lt.2 h]
    simp only [compare, compareOfLessAndEq]
    rw [if_pos (by omega)]
  · rw [show compare a a = .eq from Nat.compare_eq_eq.2 rfl]
    simp only [compare, compareOfLessAndEq]
    rw [if_neg (by omega)]
    simp
  · have h3 : b * c < a * c := Nat.mul_lt_mul_of_pos_right h hp
    rw [show compare a b = .gt from Nat.compare_eq_gt.2 h]
    simp only [compare, compareOfLessAndEq]
    rw [if_neg (by omega), if_neg (by omega)]
end Go.Proofs.YtknfdjnbndfboaaDoor
