/- The document's timer. -/
import Derived.Test.YtenamokjbbiecaaProg
import Derived.Test.YtenamokjbbiecaaBase
import Derived.Test.YtenamokjbbiecaaHeldX
import Derived.Test.YtenamokjbbiecaaHeldZ
import Derived.Test.YtenamokjbbiecaaApp
import Derived.Test.YtenamokjbbiecaaExt0
import Derived.Test.YtenamokjbbiecaaChg
import Derived.Test.YtenamokjbbiecaaMapR
import Derived.Test.YtenamokjbbiecaaMapF
import Derived.Test.YtenamokjbbiecaaTimP
import Derived.Test.YtenamokjbbiecaaTim
import Derived.Deep.Cut
import Derived.Lib.Hide
import Derived.OwnWalk
import Derived.Maps.AppendAt
import Derived.Deep.DeepMust
namespace Go.Proofs.Ytenamokjbbiecaa
open Go.RowKit
attribute [local go_sem] setCell_twice ByteArray.toList_eq str_list Ext.alloc Ext.drew
set_option linter.unusedSimpArgs false
set_option maxRecDepth 100000
set_option maxHeartbeats 6400000
attribute [local irreducible] Calls

/-- the document's timer at block tb: a rising list -/
def RtAt (w : World) (tb base : Nat) (l : List (Int × Int)) : Prop := base ≤ tb ∧ ∃ vi vn, Blk w tb #[vi, vn] 46 ∧ RowP w base vi (l.map (·.1)) ∧ RowI w base vn (l.map (·.2))
theorem RtAt.ext {w w' : World} {tb base : Nat} {l : List (Int × Int)} (h : RtAt w tb base l) (hx : Ext w w') : RtAt w' tb base l := by
  obtain ⟨h0, vi, vn, h1, h2, h3⟩ := h
  exact ⟨h0, vi, vn, h1.ext hx, OwnL.below h2 hx.below, OwnL.below h3 hx.below⟩
/-- where it is; -1 -/
def Fnd (l : List (Int × Int)) (id z : Int) : Prop := (z = -1 ∧ ∀ p ∈ l, p.1 ≠ id) ∨ ∃ i, ∃ h : i < l.length, z = i ∧ (l[i]).1 = id
theorem find_any (tb base : Nat) (l : List (Int × Int)) (id : Int) (w : World) (h : RtAt w tb base l) :
    Calls Try.prog 41 #[.pointer (some ⟨tb, 0, none⟩), .int .i64 id] w fun e w' => ∃ z : Int, e = .returned (.int .i64 z) ∧ w = w' ∧ Fnd l id z := by
  obtain ⟨h0, vi, vn, h1, h2, h3⟩ := h
  obtain ⟨Ai, ci, rfl⟩ := OwnL.slice2 h2
  have hI := h2.ints
  rw [List.length_map] at hI h1
  have hlen : l.length ≤ 9223372036854775807 := by
    obtain ⟨A', c', e1, g1, g2, _⟩ := hI
    unfold maxLen at g2
    rw [List.length_map] at g1
    omega
  have hc := h1.cell
  clear h3 h2
  go_enter Try.func41, Try.ntmps41
  go_wp2_with (fail)
  go_loopw [5] (fun i wr => ∃ k : Nat, k ≤ l.length ∧ i = .int .i64 k ∧ w = wr ∧ Hid (∀ j, j < k → ∀ h : j < l.length, (l[j]).1 ≠ id)) (fun i _ => l.length - (intOf i).toNat)
  case atStart => exact ⟨0, Nat.zero_le _, rfl, rfl, Lib.hid fun j hj => absurd hj (Nat.not_lt_zero j)⟩
  case round =>
    obtain ⟨k, hk, rfl, rfl, hn⟩ := hrel
    by_cases hlt : k < l.length
    · obtain ⟨b, o, rfl, hx⟩ := hI.at (k := k) (by rw [List.length_map]; exact hlt)
      rw [List.getElem_map] at hx
      have hxx := hx w (Ext.refl w)
      have hst := Lib.hid (fun (e : (l[k]).1 ≠ id) => (fun j (hj : j < k + 1) (h : j < l.length) => show (l[j]).1 ≠ id by
        rcases Nat.lt_or_ge j k with h2 | h2
        · exact hn.out j h2 h
        · obtain rfl : j = k := by omega
          exact e))
      have hat := Lib.hid (fun (e : (l[k]).1 = id) => (.inr ⟨k, hlt, rfl, e⟩ : Fnd l id k))
      clear hx
      generalize (l[k]).1 = y at hxx hst hat
      by_cases e : y = id
      · have hat := Lib.hid (hat.out e)
        have hb : (y == id) = true := by simpa using e
        clear e
        go_wp2_with (fail)
        go_ret
        exact ⟨_, rfl, by first | trivial | rfl, hat.out⟩
      · have hst := Lib.hid (hst.out e)
        have hb : (y == id) = false := by simpa using e
        clear e
        go_wp2_with (fail)
        exact ⟨⟨k + 1, hlt, rfl, by first | trivial | rfl, hst⟩, by simp [intOf]; omega⟩
    · obtain rfl : k = l.length := by omega
      go_wp2_with (fail)
      go_ret
      refine ⟨_, rfl, by first | trivial | rfl, .inl ⟨rfl, fun p hp => ?_⟩⟩
      obtain ⟨j, hj, rfl⟩ := List.mem_iff_getElem.1 hp
      exact hn.out j hj hj
theorem left22_any (tb base : Nat) (l : List (Int × Int)) (f : Int → Option Int) (id : Int) (w : World) (h : RtAt w tb base l) (hA : Agr2 f l) :
    Calls Try.prog 27 #[.pointer (some ⟨tb, 0, none⟩), .int .i64 id] w fun e w' => e = .returned (.tuple #[.int .i64 ((f id).getD 0), .bool (f id).isSome]) ∧ w = w' := by
  have hf := find_any tb base l id w h
  obtain ⟨h0, vi, vn, h1, h2, h3⟩ := h
  obtain ⟨An, cn, rfl⟩ := OwnL.slice2 h3
  have hI := h3.ints
  rw [List.length_map] at hI h1
  have hc := h1.cell
  clear h3 h2
  go_enter Try.func27, Try.ntmps27
  go_wp2_with (fail)
  refine hf.mono ?_
  rintro e w1 ⟨z, rfl, rfl, hz⟩
  rcases hz with ⟨rfl, hn⟩ | ⟨i, hi, rfl, hid⟩
  · have e : f id = none := (hA.none_iff id).2 hn
    have HE := Lib.hid e
    clear hn hI hf e
    go_wp2_with (fail)
    exact bodyPost_ret (v := .tuple #[.int .i64 0, .bool false]) (by simp [results, Try.results27, go_sem, *]) rfl ⟨by rw [HE.out]; rfl, by first | trivial | rfl⟩
  · obtain ⟨b, o, rfl, hx⟩ := hI.at (k := i) (by rw [List.length_map]; exact hi)
    rw [List.getElem_map] at hx
    have hxx := hx w (Ext.refl w)
    have e : f id = some (l[i]).2 := (hA.2 id _).2 (by rw [← hid]; exact List.getElem_mem hi)
    generalize (l[i]).2 = y at hxx e
    have HE := Lib.hid e
    clear hid hI hf e hx
    go_wp2_with (fail)
    exact bodyPost_ret (v := .tuple #[.int .i64 y, .bool true]) (by simp [results, Try.results27, go_sem, *]) rfl ⟨by rw [HE.out]; rfl, by first | trivial | rfl⟩
end Go.Proofs.Ytenamokjbbiecaa
