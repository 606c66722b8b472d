/- again.Cost. -/
import Derived.Test.YtknfdjnbndfboaaDoorProg
import Derived.Test.YtknfdjnbndfboaaDoorBase
import Derived.Test.YtknfdjnbndfboaaDoorBase2
import Derived.Test.YtknfdjnbndfboaaDoorHeld
import Derived.Test.YtknfdjnbndfboaaDoorHeldX
import Derived.Test.YtknfdjnbndfboaaDoorTsk1
import Derived.Test.YtknfdjnbndfboaaDoorTsk3
import Derived.Test.YtknfdjnbndfboaaDoorTskZ
import Derived.Test.YtknfdjnbndfboaaDoorBitM
import Derived.Test.YtknfdjnbndfboaaDoorBit
import Derived.Test.YtknfdjnbndfboaaDoorAgain
import Derived.Test.YtknfdjnbndfboaaDoorAgainM
import Derived.Test.YtknfdjnbndfboaaDoorNumM
import Derived.Test.YtknfdjnbndfboaaDoorNum
import Derived.Test.YtknfdjnbndfboaaDoorFltM
import Derived.Test.YtknfdjnbndfboaaDoorCst
import Derived.Deep.Cut
import Derived.Lib.Hide
namespace Go.Proofs.YtknfdjnbndfboaaDoor
open Go.RowKit
attribute [local go_sem] setCell_twice ByteArray.toList_eq str_list Ext.alloc Ext.drew
set_option linter.unusedSimpArgs false
set_option maxRecDepth 100000
set_option maxHeartbeats 6400000
attribute [local irreducible] popN

/-- what loading again costs that task k makes -/
def madeN (s : TSet) (k : Nat) (h : k < s.tasks.length) : Nat := s.reload.toNat * popN 64 (s.tasks[k].ecb.toNat &&& orU (s.tasks.drop (k + 1)))
theorem popN_le (x : Nat) : popN 64 x ≤ 64 := by rw [← bitsL_len]; exact bitsL_le x 64
theorem madeN_eq (s : TSet) (k : Nat) (h : k < s.tasks.length) (hR : 0 ≤ s.reload ∧ s.reload ≤ 10000) : s.reload * (popN 64 (s.tasks[k].ecb.toNat &&& orU (s.tasks.drop (k + 1))) : Nat) = (madeN s k h : Nat) ∧ madeN s k h ≤ 640000 := by
  unfold madeN
  have hp := popN_le (s.tasks[k].ecb.toNat &&& orU (s.tasks.drop (k + 1)))
  generalize popN 64 (s.tasks[k].ecb.toNat &&& orU (s.tasks.drop (k + 1))) = n at *
  obtain ⟨r, hr⟩ := Int.eq_ofNat_of_zero_le hR.1
  rw [hr, Int.toNat_natCast, ← Int.natCast_mul]
  exact ⟨rfl, Nat.mul_le_mul (show r ≤ 10000 by omega) hp⟩
theorem cost_any (s : TSet) (v : Value) (k : Nat) (w : World) (hv : Tasks w v s.tasks) (hp : Plain s) (hk : k < s.tasks.length) (n : Nat) (hn : workL s.tasks[k].regs = n) (hn1 : n ≤ 1000000) :
    Calls Tryd.prog 61 #[setV s v, .int .i64 k] w fun e w' => e = .returned (.tuple #[.complex .f64 (fl n) (fl (madeN s k hk)), .bool true]) ∧ Below w.heap.size w w' := by
  have l1 := hv.len
  have hv0 := hv
  obtain ⟨A, c, rfl, hle, hcm, _⟩ := hv0
  go_enter Tryd.func61, Tryd.ntmps61
  unfold setV
  go_upto_region 1 with (fail)
  have hL : Below w.heap.size w (w.alloc (.cells #[.int .i64 s.reload, (.slice A s.tasks.length c)] 24)) := (by repeat (first | exact Below.refl _ _ | assumption | refine Below.drew ?_ | refine Below.alloc ?_ (by first | (simp; done) | (simp; omega) | omega) _ | refine Below.setCell ?_ (by first | (simp; done) | (simp; omega) | omega) _)); have hB : Blk (w.alloc (.cells #[.int .i64 s.reload, (.slice A s.tasks.length c)] 24)) w.heap.size #[.int .i64 s.reload, (.slice A s.tasks.length c)] 24 := Blk.new _ _ _
  have hr := hv.ext ⟨hL⟩
  generalize w.alloc _ = W at hL hB hr ⊢
  have hc := hB.under
  refine wp_region_all' (S := Ext W) (Ext.refl W) (fun K hK => ?_); (repeat (first | (apply hO_and; (· rfl); (· rfl); (· rfl); (· rfl); simp only [Act.put, List.setIfInBounds_toArray, List.set_cons_zero, List.set_cons_succ]) | (apply hO_or; (· rfl); (· rfl); (· rfl); (· rfl); simp only [Act.put, List.setIfInBounds_toArray, List.set_cons_zero, List.set_cons_succ]) | (apply hO_off; (· rfl); (· rfl); simp only [Act.put, List.setIfInBounds_toArray, List.set_cons_zero, List.set_cons_succ]) | (apply hO_val; (· intro w hS; go_simp; with_reducible rfl); (· rfl); simp only [Act.put, List.setIfInBounds_toArray, List.set_cons_zero, List.set_cons_succ]) | (apply hO_call; (· rfl); (· intro w hS; go_simp; exact ⟨rfl, rfl⟩); (· intro w hS; exact callX hS (againIs_any s _ _ _ (hr.ext hS))); simp only [Act.put, List.setIfInBounds_toArray, List.set_cons_zero, List.set_cons_succ]) | (apply hO_if; (· rfl); (· rfl); (· intro hif w hS; go_simp; with_reducible rfl); simp only [Act.put, List.setIfInBounds_toArray, List.set_cons_zero, List.set_cons_succ]) | (apply hO_ifcall; (· rfl); (· rfl); (· intro hif w hS; go_simp; exact ⟨rfl, rfl⟩); (· intro hif w hS; exact callX hS (againIs_any s _ _ _ (hr.ext hS))); simp only [Act.put, List.setIfInBounds_toArray, List.set_cons_zero, List.set_cons_succ]))); refine hO_nil ?_; refine hK _ ?_; clear hK K
  intro w1 hX1
  have hd : (decide ((0 : Int) ≤ (k : Int)) && decide ((k : Int) < (s.tasks.length : Int))) = true := by simp [hk]
  rw [hd]
  obtain ⟨b, o, r, rfl, hx⟩ := hr.at hk
  have hm := madeN_eq s k hk hp.reload
  have ht := fun W h => made_any s (.slice (some ⟨b, o, none⟩) s.tasks.length c) k W h hp hk
  rw [hm.1] at ht
  have hwk := fun W (h : Ext _ W) => work_any s.tasks[k] r W (hx.1.ext h)
  rw [hn] at hwk
  have hco := fun W => costOf_any n (madeN s k hk) (by omega) (by omega) W
  have HT := Lib.hid ht
  have HW := Lib.hid hwk
  have HC := Lib.hid hco
  clear ht hwk hco hm
  have hrow := hx.row
  generalize hmk : madeN s k hk = m at *
  have HM := Lib.hid hmk
  clear hmk
  unfold tskV at HW
  generalize s.tasks[k] = t at hx HW hrow
  obtain ⟨A2, c2, rfl⟩ := hrow
  obtain ⟨x0, x1, x2, x3, x4, x5, x6, x7, x8⟩ := hx.under
  go_upto_region 3 with (fail)
  refine wp_region_all (S := Ext W) (by kernel_rfl) (by kernel_rfl) hX1.drew (fun K hK => ?_); (repeat (first | (apply hO_and; (· rfl); (· rfl); (· rfl); (· rfl); simp only [Act.put, List.setIfInBounds_toArray, List.set_cons_zero, List.set_cons_succ]) | (apply hO_or; (· rfl); (· rfl); (· rfl); (· rfl); simp only [Act.put, List.setIfInBounds_toArray, List.set_cons_zero, List.set_cons_succ]) | (apply hO_off; (· rfl); (· rfl); simp only [Act.put, List.setIfInBounds_toArray, List.set_cons_zero, List.set_cons_succ]) | (apply hO_val; (· intro w hS; go_simp; with_reducible rfl); (· rfl); simp only [Act.put, List.setIfInBounds_toArray, List.set_cons_zero, List.set_cons_succ]) | (apply hO_call; (· rfl); (· intro w hS; go_simp; exact ⟨rfl, rfl⟩); (· intro w hS; first | exact callX hS (HW.out _ hS) | exact callX hS (HT.out _ (hr.ext hS)) | exact callS hS (HC.out _)); simp only [Act.put, List.setIfInBounds_toArray, List.set_cons_zero, List.set_cons_succ]) | (apply hO_if; (· rfl); (· rfl); (· intro hif w hS; go_simp; with_reducible rfl); simp only [Act.put, List.setIfInBounds_toArray, List.set_cons_zero, List.set_cons_succ]) | (apply hO_ifcall; (· rfl); (· rfl); (· intro hif w hS; go_simp; exact ⟨rfl, rfl⟩); (· intro hif w hS; first | exact callX hS (HW.out _ hS) | exact callX hS (HT.out _ (hr.ext hS)) | exact callS hS (HC.out _)); simp only [Act.put, List.setIfInBounds_toArray, List.set_cons_zero, List.set_cons_succ]))); refine hO_nil ?_; refine hK _ ?_; clear hK K
  intro w2 hX2
  go_wp2_with (fail)
  exact bodyPost_ret (v := .tuple #[.complex .f64 (fl n) (fl m), .bool true]) (by simp [results, Tryd.results61, go_sem, *]) rfl ⟨by rw [HM.out], hL.trans (hX2.below.mono hL.size)⟩
end Go.Proofs.YtknfdjnbndfboaaDoor
