/- cost: whole, parts, Of, Total. -/
import Derived.Test.YtknfdjnbndfboabGreatDoorProg
import Derived.Test.YtknfdjnbndfboabGreatDoorBase
import Derived.Test.YtknfdjnbndfboabGreatDoorHeldX
import Derived.Test.YtknfdjnbndfboabGreatDoorNumP
import Derived.Test.YtknfdjnbndfboabGreatDoorNum
import Derived.Deep.Cut
import Derived.Lib.Hide
import Derived.Laws.FloatArith
import Derived.Laws.Externs
namespace Go.Proofs.YtknfdjnbndfboabGreatDoor
open Go.RowKit
set_option linter.unusedSimpArgs false
set_option maxRecDepth 100000
set_option maxHeartbeats 6400000

theorem fl_of (a : Nat) : floatOfInt .f64 (a : Int) = fl a := by
  show Ieee.Format.write Ieee.double (.number (decide ((a : Int) < 0)) (Int.natAbs a) 0) = _
  rw [decide_eq_false (by omega), Int.natAbs_natCast]
  rfl
theorem archTrunc_run (args : Array Value) (w : World) : (callFunc 105 args).run Tryz.prog w = ((Extern.MathFloor.toIntegral "math.archTrunc" .zero args).run Tryz.prog w).andThen fun v w' => .ok (.value v) w' :=
  run_callFunc_extern Tryz.func105 (by kernel_rfl) (by kernel_rfl) (by kernel_rfl) (by kernel_rfl) args w
theorem archTrunc_fl (n : Nat) (h : n ≤ 1099511627776) (w : World) : (callFunc 105 #[.float .f64 (fl n)]).run Tryz.prog w = .ok (.value (.float .f64 (fl n))) w := by
  rw [archTrunc_run]
  have ht := fl_trunc h
  have hr : ∃ m i, FloatKind.f64.decode (fl n) = .number false m i := by
    obtain ⟨m, i, e, _⟩ := fl_scaled h
    exact ⟨m, i, e⟩
  obtain ⟨m, i, e⟩ := hr
  rw [e] at ht
  have key : ∀ d, d = Ieee.Datum.number false m i → ∀ x, FloatKind.f64.decode x = d → Extern.MathFloor.toIntegral "math.archTrunc" .zero #[.float .f64 x] = pure (.float .f64 (FloatKind.f64.encode (d.integral .zero))) := by
    rintro d rfl x hx
    delta Extern.MathFloor.toIntegral
    show (match FloatKind.f64.decode x with
      | .nan s t => if FloatKind.f64.format.quiet t = t then (pure (Value.float .f64 x) : Sem Value) else (choose (.extern "math.Floor,Ceil,Trunc,RoundToEven.signallingNaN kept" 2)).bind fun kept => pure (Value.float .f64 (if kept == 1 then x else FloatKind.f64.encode (.nan s (FloatKind.f64.format.quiet t))))
      | d => pure (Value.float .f64 (FloatKind.f64.encode (d.integral .zero)))) = _
    rw [hx]
  rw [key _ rfl _ e, ht]
  rfl
theorem trunc_any (n : Nat) (h : n ≤ 1099511627776) (w : World) : Calls Tryz.prog 102 #[.float .f64 (fl n)] w fun e w' => e = .returned (.float .f64 (fl n)) ∧ w = w' := by
  have ht := archTrunc_fl n h
  go_enter Tryz.func102, Tryz.ntmps102
  go_wp2_with (fail)
  go_ret
  exact ⟨rfl, rfl⟩
theorem costOf_any (a b : Nat) (ha : a ≤ 1099511627776) (hb : b ≤ 1099511627776) (w : World) : Calls Tryz.prog 78 #[.int .i64 a, .int .i64 b] w fun e w' => e = .returned (.tuple #[.complex .f64 (fl a) (fl b), .bool true]) ∧ w = w' := by
  have h1 : isN a = true := isN_iff.2 (by omega)
  have h2 : isN b = true := isN_iff.2 (by omega)
  have f1 := fl_of a
  have f2 := fl_of b
  go_enter Tryz.func78, Tryz.ntmps78
  go_wp2_with (go_at_call 93; refine (numIs_any _ _).mono ?_; rintro e w' ⟨rfl, rfl⟩; first | rw [h1] | rw [h2])
  exact bodyPost_ret (v := .tuple #[.complex .f64 (fl a) (fl b), .bool true]) (by simp [results, Tryz.results78, go_sem, *]) rfl ⟨rfl, rfl⟩
theorem last_word : fl 1099511627776 = 4787326403894837248 := by decide +kernel
theorem whole_facts (n : Nat) (h : n ≤ 1099511627776) : ∃ p q : Ordering, FloatKind.f64.format.order (fl n) 0 = some p ∧ (p = .gt ∨ p = .eq) ∧ FloatKind.f64.format.order (fl n) 4787326403894837248 = some q ∧ (q = .lt ∨ q = .eq) ∧ FloatKind.f64.format.order (fl n) (fl n) = some .eq := by
  refine ⟨compare n 0, compare n 1099511627776, ?_, ?_, ?_, ?_, ?_⟩
  · have := fl_order h (b := 0) (by omega)
    rw [fl_zero] at this
    exact this
  · rcases Nat.eq_zero_or_pos n with rfl | h0
    · exact .inr (Nat.compare_eq_eq.2 rfl)
    · exact .inl (Nat.compare_eq_gt.2 h0)
  · have := fl_order h (b := 1099511627776) (by omega)
    rw [last_word] at this
    exact this
  · rcases Nat.lt_or_eq_of_le h with h0 | rfl
    · exact .inl (Nat.compare_eq_lt.2 h0)
    · exact .inr (Nat.compare_eq_eq.2 rfl)
  · have := fl_order h h
    rw [Nat.compare_eq_eq.2 rfl] at this
    exact this
theorem fl_back (n : Nat) (h : n ≤ 1099511627776) : floatToIntVal .f64 (fl n) .i64 = some (n : Int) := by
  unfold floatToIntVal
  rw [fl_int h]
  have e1 : IntKind.i64.min = -9223372036854775808 := by decide
  have e2 : IntKind.i64.max = 9223372036854775807 := by decide
  simp only [e1, e2]
  rw [if_pos ⟨by omega, by omega⟩]
theorem whole_any (n : Nat) (h : n ≤ 1099511627776) (w : World) : Calls Tryz.prog 94 #[.float .f64 (fl n)] w fun e w' => e = .returned (.tuple #[.int .i64 n, .bool true]) ∧ w = w' := by
  obtain ⟨p, q, o1, hp, o2, hq, o3⟩ := whole_facts n h
  have hc := fun w => run_convert_float_int (P := Tryz.prog) w 107 2 .f64 .i64 (fl n) n (by kernel_rfl) (by kernel_rfl) (fl_back n h)
  rcases hp with rfl | rfl <;> rcases hq with rfl | rfl
  all_goals
    go_enter Tryz.func94, Tryz.ntmps94
    go_wp2_with (go_at_call 102; refine (trunc_any n h _).mono ?_; rintro e w' ⟨rfl, rfl⟩)
    exact bodyPost_ret (v := .tuple #[.int .i64 n, .bool true]) (by simp [results, Tryz.results94, go_sem, *]) rfl ⟨rfl, rfl⟩
theorem parts_any (a b : Nat) (ha : a ≤ 1099511627776) (hb : b ≤ 1099511627776) (w : World) : Calls Tryz.prog 80 #[.complex .f64 (fl a) (fl b)] w fun e w' => e = .returned (.tuple #[.int .i64 a, .int .i64 b, .bool true]) ∧ w = w' := by
  go_enter Tryz.func80, Tryz.ntmps80
  go_wp2_with (fail)
  refine (whole_any a ha _).mono ?_
  rintro e w1 ⟨rfl, rfl⟩
  go_wp2_with (fail)
  refine (whole_any b hb _).mono ?_
  rintro e w1 ⟨rfl, rfl⟩
  go_wp2_with (fail)
  exact bodyPost_ret (v := .tuple #[.int .i64 a, .int .i64 b, .bool true]) (by simp [results, Tryz.results80, go_sem, *]) rfl ⟨rfl, rfl⟩
theorem total_any (a b : Nat) (h : a + b ≤ 1099511627776) (w : World) : Calls Tryz.prog 69 #[.complex .f64 (fl a) (fl b)] w fun e w' => e = .returned (.tuple #[.int .i64 (a + b : Nat), .bool true]) ∧ w = w' := by
  go_enter Tryz.func69, Tryz.ntmps69
  go_wp2_with (fail)
  refine (parts_any a b (by omega) (by omega) _).mono ?_
  rintro e w1 ⟨rfl, rfl⟩
  have hp : pairN ((a : Int) + (b : Int)) (isN a && isN b && isN ((a : Int) + (b : Int))) = .tuple #[.int .i64 (a + b : Nat), .bool true] := by
    rw [isN_iff.2 (by omega), isN_iff.2 (by omega), isN_iff.2 (by omega), Int.natCast_add]
    rfl
  go_wp2_with (fail)
  refine (numAdd_any a b _).mono ?_
  rintro e w1 ⟨rfl, rfl⟩
  rw [hp]
  go_wp2_with (fail)
  exact bodyPost_ret (v := .tuple #[.int .i64 (a + b : Nat), .bool true]) (by simp [results, Tryz.results69, go_sem, *]) rfl ⟨rfl, rfl⟩
end Go.Proofs.YtknfdjnbndfboabGreatDoor
