import Derived.Test.YtniejidekflmiaaGreatDoorProg
import Derived.Test.YtniejidekflmiaaGreatDoorBase
import Derived.Test.YtniejidekflmiaaGreatDoorLexM
import Derived.Test.YtniejidekflmiaaGreatDoorLex1
import Derived.BigQuiet
import Derived.Deep.QuietTactic
import Derived.RegionCalls
import Derived.Deep.RegionWith
namespace Go.Proofs.YtniejidekflmiaaGreatDoor
open Go.RowKit
set_option linter.unusedSimpArgs false
attribute [local go_sem] setCell_twice ByteArray.toList_eq str_list

set_option maxHeartbeats 400000 in
theorem digitR_any (c : Int) (w : World) :
    Calls Tryz.prog 120 #[.int .u8 c] w fun e w' => e = .returned (.bool (isDigitB c)) ∧ w = w' := by
  go_enter Tryz.func120, Tryz.ntmps120
  go_wp2
  all_goals (go_ret; simp [isDigitB]; try omega)
set_option maxHeartbeats 400000 in
theorem smallR_any (c : Int) (w : World) :
    Calls Tryz.prog 96 #[.int .u8 c] w fun e w' => e = .returned (.bool (isLetterB c)) ∧ w = w' := by
  go_enter Tryz.func96, Tryz.ntmps96
  go_wp2
  all_goals (go_ret; simp [isLetterB]; try omega)

theorem wordsR_any (w : World) :
    Calls Tryz.prog 128 #[] w fun e w' => e = .returned (.slice (some ⟨w.heap.size, 0, none⟩) 10 10) ∧ w.alloc (.cells wordsC 9) = w' := by
  go_enter Tryz.func128, Tryz.ntmps128
  go_wp2
  go_ret
  exact ⟨rfl, rfl⟩

theorem wordAt (k : Nat) (h : k < 10) : wordsC[k]? = some (.string (str (wordsL.getD k []))) := by
  simp only [wordsC, List.getElem?_toArray, List.getElem?_map]
  rw [List.getElem?_eq_getElem (by simpa [wordsL] using h), getD_at (by simpa [wordsL] using h)]
  rfl
set_option maxHeartbeats 400000 in
theorem wordR_any (s : ByteArray) (r : Bool) (hr : wordsL.contains s.data.toList = r) (w : World) :
    Calls Tryz.prog 121 #[.string s] w fun e w' => e = .returned (.bool r) ∧ Below w.heap.size w w' := by
  have HR := Lib.hid hr; clear hr
  go_enter Tryz.func121, Tryz.ntmps121
  go_wp2_with (go_at_call 128; refine (wordsR_any _).mono ?_; rintro e w' ⟨rfl, rfl⟩)
  have hc : ∀ k, k < 10 → (w.alloc (.cells wordsC 9)).cell? ⟨w.heap.size, k, none⟩ = some (.string (str (wordsL.getD k []))) := fun k hk => by rw [(Blk.new _ _ _).cell, wordAt k hk]
  have hbel : Below w.heap.size w (w.alloc (.cells wordsC 9)) := (by repeat (first | exact Below.refl _ _ | assumption | refine Below.drew ?_ | refine Below.alloc ?_ (by first | (simp; done) | (simp; omega) | omega) _ | refine Below.setCell ?_ (by first | (simp; done) | (simp; omega) | omega) _))
  generalize w.alloc (.cells wordsC 9) = W at hc hbel ⊢
  have HC := Lib.hid hc; clear hc
  go_loop [4] (fun i => ∃ k : Nat, k ≤ 10 ∧ i = .int .i64 k ∧ ∀ j, j < k → wordsL.getD j [] ≠ s.data.toList) (fun i => 10 - (intOf i).toNat)
  case atStart => exact ⟨0, by omega, rfl, fun j hj => by omega⟩
  case round =>
    obtain ⟨k, hk, rfl, hno⟩ := hrel
    have HN := Lib.hid hno; clear hno
    by_cases hlt : k < 10
    · have hcell := HC.out k hlt
      by_cases he : wordsL.getD k [] = s.data.toList
      · have hm : r = true := by rw [← HR.out, List.contains_iff_mem, ← he, getD_at (by simpa [wordsL] using hlt)]; exact List.getElem_mem _
        generalize wordsL.getD k [] = x at hcell he
        have hb : (x == s.data.toList) = true := by rw [he]; simp
        have HM := Lib.hid hm; clear hm he
        go_wp2
        go_ret
        exact ⟨by rw [HM.out]; rfl, hbel⟩
      · have HE := Lib.hid he
        generalize wordsL.getD k [] = x at hcell he
        have hb : (x == s.data.toList) = false := by simpa using he
        clear he
        go_wp2
        exact ⟨⟨k + 1, by omega, rfl, fun j hj => by
          by_cases hjk : j = k
          · rw [hjk]; exact HE.out
          · exact HN.out j (by omega)⟩, by simp [intOf]; omega⟩
    · have hm : r = false := by
        rw [← HR.out, ← Bool.not_eq_true, List.contains_iff_mem]
        intro hm
        obtain ⟨j, hj, e⟩ := List.getElem_of_mem hm
        have hj' : j < 10 := by simpa [wordsL] using hj
        exact HN.out j (by omega) (by rw [getD_at hj]; exact e)
      have HM := Lib.hid hm; clear hm
      go_wp2
      go_ret
      exact ⟨by rw [HM.out]; rfl, hbel⟩

/-- what the reference's one answers -/
def OnePost : Option (Tok × Nat) → Ending → Prop
  | some (t, n), e => e = .returned (.tuple #[.agg #[.int .i64 t.kind, .string t.text, .int .i64 t.n, .int .i64 t.at_], .int .i64 n])
  | none, e => e = .returned (.tuple #[.agg #[.int .i64 0, .string ⟨#[]⟩, .int .i64 0, .int .i64 0], .int .i64 0])

set_option maxHeartbeats 1600000 in
set_option maxRecDepth 100000 in
theorem one_digit (s : ByteArray) (h : 0 < s.size) (w : World) (hs : s.size ≤ maxLen) (hd : isDigitB s[0].toNat = true) :
    Calls Tryz.prog 97 #[.string s] w fun e w' => OnePost (tokenL s.data.toList) e ∧ Below w.heap.size w w' := by
  have hn := runN_le s isDigitB
  have hl : isLetterB s[0].toNat = false := by simp [isDigitB, isLetterB] at hd ⊢; omega
  have E := tokenL_digit s h hl hd
  have h59 : ((s[0].toNat : Int) == 59) = false := by simp [isDigitB] at hd; simp; omega
  unfold maxLen at hs
  go_enter Tryz.func97, Tryz.ntmps97
  go_wp2_with (first | (go_at_call 120; refine (digitR_any _ _).mono ?_; rintro e w' ⟨rfl, rfl⟩))
  go_loop [4, 5] (fun i v => ∃ k : Nat, k ≤ runN s isDigitB ∧ i = .int .i64 k ∧ v = .int .i64 (valL (s.data.toList.take (min k 9)))) (fun i _ => s.size - (intOf i).toNat)
  case atStart => exact ⟨0, by omega, rfl, rfl⟩
  case round =>
    obtain ⟨k, hk, rfl, rfl⟩ := hrel
    have hv := val_nine s (min k 9) (by omega) (by omega)
    obtain ⟨hv0, hv1⟩ := hv
    by_cases hgo : k < s.size ∧ ∃ h : k < s.size, isDigitB s[k].toNat = true
    · obtain ⟨hlt, _, hdk⟩ := hgo
      have hst := run_step s isDigitB k hk hlt
      have hk1 := hst.1 hdk
      have hd := digit_at s k hk1
      have hs1 := val_step s k hk1
      have e3 : ((s.data.toList.getD k 0).toNat : Int) = s[k].toNat := by rw [getD_at (by rw [list_size]; exact hlt)]; rfl
      rw [e3] at hd hs1
      obtain ⟨hd0, hd1⟩ := hd
      have HS := Lib.hid hs1
      clear hs1 e3 hst E h59 hd
      by_cases hk9 : k < 9
      · have e2 : min k 9 = k := by omega
        rw [e2] at hv0 hv1 ⊢
        clear e2
        go_wp2_with (first | (go_at_call 120; refine (digitR_any _ _).mono ?_; rintro e w' ⟨rfl, rfl⟩))
        exact ⟨⟨k + 1, hk1, rfl, by rw [show min (k + 1) 9 = k + 1 by omega, HS.out]; congr 1; omega⟩, by simp [intOf]; omega⟩
      · have e2 : min k 9 = 9 := by omega
        rw [e2] at hv0 hv1 ⊢
        clear e2
        go_wp2_with (first | (go_at_call 120; refine (digitR_any _ _).mono ?_; rintro e w' ⟨rfl, rfl⟩))
        exact ⟨⟨k + 1, hk1, rfl, by rw [show min (k + 1) 9 = 9 by omega]⟩, by simp [intOf]; omega⟩
    · have hend : runN s isDigitB = k := by
        by_cases hlt : k < s.size
        · have hf : isDigitB s[k].toNat = false := by
            rw [← Bool.not_eq_true]
            exact fun hh => hgo ⟨hlt, hlt, hh⟩
          exact (run_step s isDigitB k hk hlt).2 hf
        · omega
      have hnd : ∀ h : k < s.size, isDigitB s[k].toNat = false := fun hlt => by
        rw [← Bool.not_eq_true]
        exact fun hh => hgo ⟨hlt, hlt, hh⟩
      have HE := Lib.hid E; clear E
      have HN := Lib.hid hend; clear hend hgo
      by_cases hok : k ≤ 9 ∧ (k ≤ 1 ∨ (s[0].toNat : Int) ≠ 48)
      · have e := HE.out.1 (by unfold numberOk; rw [HN.out]; exact hok)
        have e2 : min k 9 = k := by omega
        rw [e2]
        have HT := Lib.hid e; clear e e2 hk hv0 hv1
        have hok' : (9 < (k : Int) ∨ ((s[0].toNat : Int) == 48) = true) → (k : Int) ≤ 1 := by simp; omega
        have HO := Lib.hid hok'; clear hok'
        obtain ⟨hok1, hok2⟩ := hok
        by_cases hlt : k < s.size
        · have hf := hnd hlt
          clear hnd
          go_wp2_with (first | (go_at_call 120; refine (digitR_any _ _).mono ?_; rintro e w' ⟨rfl, rfl⟩))
          all_goals first
            | (exfalso; simp_all <;> omega)
            | (refine bodyPost_ret (v := .tuple #[.agg #[.int .i64 2, .string ⟨#[]⟩, .int .i64 (valL (s.data.toList.take k)), .int .i64 0], .int .i64 k]) ?_ rfl ⟨?_, ?_⟩; (· (simp [results, Tryz.results97, go_sem, *]; done)); (· rw [HT.out, HN.out]; exact rfl); (· exact (by repeat (first | exact Below.refl _ _ | assumption | refine Below.drew ?_ | refine Below.alloc ?_ (by first | (simp; done) | (simp; omega) | omega) _ | refine Below.setCell ?_ (by first | (simp; done) | (simp; omega) | omega) _))))
        · clear hnd
          go_wp2_with (first | (go_at_call 120; refine (digitR_any _ _).mono ?_; rintro e w' ⟨rfl, rfl⟩))
          all_goals first
            | (exfalso; simp_all <;> omega)
            | (refine bodyPost_ret (v := .tuple #[.agg #[.int .i64 2, .string ⟨#[]⟩, .int .i64 (valL (s.data.toList.take k)), .int .i64 0], .int .i64 k]) ?_ rfl ⟨?_, ?_⟩; (· (simp [results, Tryz.results97, go_sem, *]; done)); (· rw [HT.out, HN.out]; exact rfl); (· exact (by repeat (first | exact Below.refl _ _ | assumption | refine Below.drew ?_ | refine Below.alloc ?_ (by first | (simp; done) | (simp; omega) | omega) _ | refine Below.setCell ?_ (by first | (simp; done) | (simp; omega) | omega) _))))
      · have e := HE.out.2 (by unfold numberOk; rw [HN.out]; exact hok)
        have HT := Lib.hid e; clear e hk hv0 hv1
        by_cases hlt : k < s.size
        · have hf := hnd hlt
          clear hnd
          go_wp2_with (first | (go_at_call 120; refine (digitR_any _ _).mono ?_; rintro e w' ⟨rfl, rfl⟩))
          all_goals first
            | (refine bodyPost_ret (v := .tuple #[.agg #[.int .i64 0, .string ⟨#[]⟩, .int .i64 0, .int .i64 0], .int .i64 0]) ?_ rfl ⟨?_, ?_⟩; (· (simp [results, Tryz.results97, go_sem, *]; done)); (· rw [HT.out]; exact rfl); (· exact (by repeat (first | exact Below.refl _ _ | assumption | refine Below.drew ?_ | refine Below.alloc ?_ (by first | (simp; done) | (simp; omega) | omega) _ | refine Below.setCell ?_ (by first | (simp; done) | (simp; omega) | omega) _))))
            | (exfalso; simp_all <;> omega)
        · clear hnd
          go_wp2_with (first | (go_at_call 120; refine (digitR_any _ _).mono ?_; rintro e w' ⟨rfl, rfl⟩))
          all_goals first
            | (refine bodyPost_ret (v := .tuple #[.agg #[.int .i64 0, .string ⟨#[]⟩, .int .i64 0, .int .i64 0], .int .i64 0]) ?_ rfl ⟨?_, ?_⟩; (· (simp [results, Tryz.results97, go_sem, *]; done)); (· rw [HT.out]; exact rfl); (· exact (by repeat (first | exact Below.refl _ _ | assumption | refine Below.drew ?_ | refine Below.alloc ?_ (by first | (simp; done) | (simp; omega) | omega) _ | refine Below.setCell ?_ (by first | (simp; done) | (simp; omega) | omega) _))))
            | (exfalso; simp_all <;> omega)

set_option maxHeartbeats 1600000 in
set_option maxRecDepth 100000 in
theorem one_letter (s : ByteArray) (h : 0 < s.size) (w : World) (hs : s.size ≤ maxLen) (hl : isLetterB s[0].toNat = true) :
    Calls Tryz.prog 97 #[.string s] w fun e w' => OnePost (tokenL s.data.toList) e ∧ Below w.heap.size w w' := by
  have hn := runN_le s isMoreB
  have hd : isDigitB s[0].toNat = false := by simp [isDigitB, isLetterB] at hl ⊢; omega
  have E := Lib.hid (tokenL_letter s h hl)
  have h59 : ((s[0].toNat : Int) == 59) = false := by simp [isLetterB] at hl; simp; omega
  unfold maxLen at hs
  go_enter Tryz.func97, Tryz.ntmps97
  go_wp2_with (first | (go_at_call 120; refine (digitR_any _ _).mono ?_; rintro e w' ⟨rfl, rfl⟩) | (go_at_call 96; refine (smallR_any _ _).mono ?_; rintro e w' ⟨rfl, rfl⟩))
  go_loop [4] (fun i => ∃ k : Nat, k ≤ runN s isMoreB ∧ i = .int .i64 k) (fun i => s.size - (intOf i).toNat)
  case atStart => exact ⟨0, by omega, rfl⟩
  case round =>
    obtain ⟨k, hk, rfl⟩ := hrel
    by_cases hgo : k < s.size ∧ ∃ h : k < s.size, isMoreB s[k].toNat = true
    · obtain ⟨hlt, _, hdk⟩ := hgo
      have hk1 := (run_step s isMoreB k hk hlt).1 hdk
      have HD := Lib.hid hdk; clear hdk
      have hwd := fun (r : Bool) (hr : wordsL.contains (s.extract 0 k).data.toList = r) => wordR_any (s.extract 0 k) r hr
      go_wp2_with (first | (go_at_call 120; refine (digitR_any _ _).mono ?_; rintro e w' ⟨rfl, rfl⟩) | (go_at_call 96; refine (smallR_any _ _).mono ?_; rintro e w' ⟨rfl, rfl⟩) | (go_at_call 121; exfalso; have hx := HD.out; unfold isMoreB at hx; simp_all; done))
      all_goals exact ⟨⟨k + 1, hk1, rfl⟩, by simp [intOf]; omega⟩
    · have hend : runN s isMoreB = k := by
        by_cases hlt : k < s.size
        · have hf : isMoreB s[k].toNat = false := by
            rw [← Bool.not_eq_true]
            exact fun hh => hgo ⟨hlt, hlt, hh⟩
          exact (run_step s isMoreB k hk hlt).2 hf
        · omega
      have hnd : Hid (∀ h : k < s.size, isMoreB s[k].toNat = false) := fun hlt => by
        rw [← Bool.not_eq_true]
        exact fun hh => hgo ⟨hlt, hlt, hh⟩
      obtain ⟨r, hr⟩ : ∃ r, wordsL.contains (s.extract 0 k).data.toList = r := ⟨_, rfl⟩
      have hT : tokenL s.data.toList = if k ≤ 12 then some (⟨if r then 3 else 1, s.extract 0 k, 0, 0⟩, k) else none := by rw [E.out, hend, hr]
      have HT := Lib.hid hT
      have HR := Lib.hid hr
      have hw12 : r = true → k ≤ 12 := by
        intro hrt
        rw [hrt, List.contains_iff_mem, extract_from] at hr
        have hl : ∀ x ∈ wordsL, x.length ≤ 12 := by decide +kernel
        have := hl _ hr
        rw [List.length_take, list_size] at this
        omega
      have hks : k ≤ s.size := by rw [← hend]; exact hn
      clear hT hr hend hgo hk
      by_cases hlt : k < s.size
      · have hf := hnd.out hlt
        have hf1 : isLetterB s[k].toNat = false := by unfold isMoreB at hf; simp at hf; exact hf.1
        have hf2 : isDigitB s[k].toNat = false := by unfold isMoreB at hf; simp at hf; exact hf.2.1
        have hf3 : ((s[k].toNat : Int) == 95) = false := by unfold isMoreB at hf; simp at hf; simp; exact hf.2.2
        clear hf
        cases r with
        | true =>
          have h12 := hw12 rfl
          clear hw12
          go_wp2_with (first | (go_at_call 120; refine (digitR_any _ _).mono ?_; rintro e w' ⟨rfl, rfl⟩) | (go_at_call 96; refine (smallR_any _ _).mono ?_; rintro e w' ⟨rfl, rfl⟩) | (go_at_call 121; refine (wordR_any _ _ HR.out _).mono ?_; rintro e w1 ⟨rfl, hb⟩; have hB0 := (Blk.new _ _ _).below hb (by first | (simp; done) | (simp; omega) | omega); have cB0 := hB0.cell; have fB0 := hB0.free))
          all_goals (refine bodyPost_ret (v := .tuple #[.agg #[.int .i64 3, .string (s.extract 0 k), .int .i64 0, .int .i64 0], .int .i64 k]) ?_ rfl ⟨?_, ?_⟩; (· (simp [results, Tryz.results97, go_sem, *]; done)); (· rw [HT.out, if_pos h12]; exact rfl); (· exact ((((Below.trans (by repeat (first | exact Below.refl _ _ | assumption | refine Below.drew ?_ | refine Below.alloc ?_ (by first | (simp; done) | (simp; omega) | omega) _ | refine Below.setCell ?_ (by first | (simp; done) | (simp; omega) | omega) _)) (hb.mono (by first | (simp; done) | (simp; omega) | omega))).setCell (by simp) _).setCell (by simp) _).setCell (by simp) _).setCell (by simp) _))
        | false =>
          clear hw12
          by_cases h12 : k ≤ 12
          · go_wp2_with (first | (go_at_call 120; refine (digitR_any _ _).mono ?_; rintro e w' ⟨rfl, rfl⟩) | (go_at_call 96; refine (smallR_any _ _).mono ?_; rintro e w' ⟨rfl, rfl⟩) | (go_at_call 121; refine (wordR_any _ _ HR.out _).mono ?_; rintro e w1 ⟨rfl, hb⟩; have hB0 := (Blk.new _ _ _).below hb (by first | (simp; done) | (simp; omega) | omega); have cB0 := hB0.cell; have fB0 := hB0.free))
            all_goals (refine bodyPost_ret (v := .tuple #[.agg #[.int .i64 1, .string (s.extract 0 k), .int .i64 0, .int .i64 0], .int .i64 k]) ?_ rfl ⟨?_, ?_⟩; (· (simp [results, Tryz.results97, go_sem, *]; done)); (· rw [HT.out, if_pos h12]; exact rfl); (· exact ((((Below.trans (by repeat (first | exact Below.refl _ _ | assumption | refine Below.drew ?_ | refine Below.alloc ?_ (by first | (simp; done) | (simp; omega) | omega) _ | refine Below.setCell ?_ (by first | (simp; done) | (simp; omega) | omega) _)) (hb.mono (by first | (simp; done) | (simp; omega) | omega))).setCell (by simp) _).setCell (by simp) _).setCell (by simp) _).setCell (by simp) _))
          · go_wp2_with (first | (go_at_call 120; refine (digitR_any _ _).mono ?_; rintro e w' ⟨rfl, rfl⟩) | (go_at_call 96; refine (smallR_any _ _).mono ?_; rintro e w' ⟨rfl, rfl⟩) | (go_at_call 121; refine (wordR_any _ _ HR.out _).mono ?_; rintro e w1 ⟨rfl, hb⟩; have hB0 := (Blk.new _ _ _).below hb (by first | (simp; done) | (simp; omega) | omega); have cB0 := hB0.cell; have fB0 := hB0.free))
            all_goals (refine bodyPost_ret (v := .tuple #[.agg #[.int .i64 0, .string ⟨#[]⟩, .int .i64 0, .int .i64 0], .int .i64 0]) ?_ rfl ⟨?_, ?_⟩; (· (simp [results, Tryz.results97, go_sem, *]; done)); (· rw [HT.out, if_neg h12]; exact rfl); (· exact ((((Below.trans (by repeat (first | exact Below.refl _ _ | assumption | refine Below.drew ?_ | refine Below.alloc ?_ (by first | (simp; done) | (simp; omega) | omega) _ | refine Below.setCell ?_ (by first | (simp; done) | (simp; omega) | omega) _)) (hb.mono (by first | (simp; done) | (simp; omega) | omega))).setCell (by simp) _).setCell (by simp) _).setCell (by simp) _).setCell (by simp) _))
      · clear hnd
        cases r with
        | true =>
          have h12 := hw12 rfl
          clear hw12
          go_wp2_with (first | (go_at_call 120; refine (digitR_any _ _).mono ?_; rintro e w' ⟨rfl, rfl⟩) | (go_at_call 96; refine (smallR_any _ _).mono ?_; rintro e w' ⟨rfl, rfl⟩) | (go_at_call 121; refine (wordR_any _ _ HR.out _).mono ?_; rintro e w1 ⟨rfl, hb⟩; have hB0 := (Blk.new _ _ _).below hb (by first | (simp; done) | (simp; omega) | omega); have cB0 := hB0.cell; have fB0 := hB0.free))
          all_goals (refine bodyPost_ret (v := .tuple #[.agg #[.int .i64 3, .string (s.extract 0 k), .int .i64 0, .int .i64 0], .int .i64 k]) ?_ rfl ⟨?_, ?_⟩; (· (simp [results, Tryz.results97, go_sem, *]; done)); (· rw [HT.out, if_pos h12]; exact rfl); (· exact ((((Below.trans (by repeat (first | exact Below.refl _ _ | assumption | refine Below.drew ?_ | refine Below.alloc ?_ (by first | (simp; done) | (simp; omega) | omega) _ | refine Below.setCell ?_ (by first | (simp; done) | (simp; omega) | omega) _)) (hb.mono (by first | (simp; done) | (simp; omega) | omega))).setCell (by simp) _).setCell (by simp) _).setCell (by simp) _).setCell (by simp) _))
        | false =>
          clear hw12
          by_cases h12 : k ≤ 12
          · go_wp2_with (first | (go_at_call 120; refine (digitR_any _ _).mono ?_; rintro e w' ⟨rfl, rfl⟩) | (go_at_call 96; refine (smallR_any _ _).mono ?_; rintro e w' ⟨rfl, rfl⟩) | (go_at_call 121; refine (wordR_any _ _ HR.out _).mono ?_; rintro e w1 ⟨rfl, hb⟩; have hB0 := (Blk.new _ _ _).below hb (by first | (simp; done) | (simp; omega) | omega); have cB0 := hB0.cell; have fB0 := hB0.free))
            all_goals (refine bodyPost_ret (v := .tuple #[.agg #[.int .i64 1, .string (s.extract 0 k), .int .i64 0, .int .i64 0], .int .i64 k]) ?_ rfl ⟨?_, ?_⟩; (· (simp [results, Tryz.results97, go_sem, *]; done)); (· rw [HT.out, if_pos h12]; exact rfl); (· exact ((((Below.trans (by repeat (first | exact Below.refl _ _ | assumption | refine Below.drew ?_ | refine Below.alloc ?_ (by first | (simp; done) | (simp; omega) | omega) _ | refine Below.setCell ?_ (by first | (simp; done) | (simp; omega) | omega) _)) (hb.mono (by first | (simp; done) | (simp; omega) | omega))).setCell (by simp) _).setCell (by simp) _).setCell (by simp) _).setCell (by simp) _))
          · go_wp2_with (first | (go_at_call 120; refine (digitR_any _ _).mono ?_; rintro e w' ⟨rfl, rfl⟩) | (go_at_call 96; refine (smallR_any _ _).mono ?_; rintro e w' ⟨rfl, rfl⟩) | (go_at_call 121; refine (wordR_any _ _ HR.out _).mono ?_; rintro e w1 ⟨rfl, hb⟩; have hB0 := (Blk.new _ _ _).below hb (by first | (simp; done) | (simp; omega) | omega); have cB0 := hB0.cell; have fB0 := hB0.free))
            all_goals (refine bodyPost_ret (v := .tuple #[.agg #[.int .i64 0, .string ⟨#[]⟩, .int .i64 0, .int .i64 0], .int .i64 0]) ?_ rfl ⟨?_, ?_⟩; (· (simp [results, Tryz.results97, go_sem, *]; done)); (· rw [HT.out, if_neg h12]; exact rfl); (· exact ((((Below.trans (by repeat (first | exact Below.refl _ _ | assumption | refine Below.drew ?_ | refine Below.alloc ?_ (by first | (simp; done) | (simp; omega) | omega) _ | refine Below.setCell ?_ (by first | (simp; done) | (simp; omega) | omega) _)) (hb.mono (by first | (simp; done) | (simp; omega) | omega))).setCell (by simp) _).setCell (by simp) _).setCell (by simp) _).setCell (by simp) _))

set_option maxHeartbeats 800000 in
set_option maxRecDepth 100000 in
theorem one_other (s : ByteArray) (h : 0 < s.size) (w : World) (hl : isLetterB s[0].toNat = false) (hd : isDigitB s[0].toNat = false) :
    Calls Tryz.prog 97 #[.string s] w fun e w' => OnePost (tokenL s.data.toList) e ∧ Below w.heap.size w w' := by
  have e : tokenL s.data.toList = if (s[0].toNat : Int) = 59 then some (⟨3, ⟨#[59]⟩, 0, 0⟩, 1) else none := by
    have e := data_cons s h
    have hc : ((s[0].toNat : Int) = 59) ↔ (s[0].toNat = 59) := by omega
    simp only [hc]
    unfold tokenL
    rw [e]
    simp only [hl, hd, Bool.false_eq_true, if_false]
  by_cases h59 : (s[0].toNat : Int) = 59
  · rw [if_pos h59] at e
    have E := Lib.hid e; clear e
    have hb : ((s[0].toNat : Int) == 59) = true := by simpa using h59
    clear h59
    go_enter Tryz.func97, Tryz.ntmps97
    go_wp2_with (first | (go_at_call 120; refine (digitR_any _ _).mono ?_; rintro e w' ⟨rfl, rfl⟩) | (go_at_call 96; refine (smallR_any _ _).mono ?_; rintro e w' ⟨rfl, rfl⟩))
    all_goals (refine bodyPost_ret (v := .tuple #[.agg #[.int .i64 3, .string ⟨#[59]⟩, .int .i64 0, .int .i64 0], .int .i64 1]) ?_ rfl ⟨?_, ?_⟩; (· (simp [results, Tryz.results97, go_sem, *]; done)); (· rw [E.out]; exact rfl); (· exact (by repeat (first | exact Below.refl _ _ | assumption | refine Below.drew ?_ | refine Below.alloc ?_ (by first | (simp; done) | (simp; omega) | omega) _ | refine Below.setCell ?_ (by first | (simp; done) | (simp; omega) | omega) _))))
  · rw [if_neg h59] at e
    have E := Lib.hid e; clear e
    have hb : ((s[0].toNat : Int) == 59) = false := by simpa using h59
    clear h59
    go_enter Tryz.func97, Tryz.ntmps97
    go_wp2_with (first | (go_at_call 120; refine (digitR_any _ _).mono ?_; rintro e w' ⟨rfl, rfl⟩) | (go_at_call 96; refine (smallR_any _ _).mono ?_; rintro e w' ⟨rfl, rfl⟩))
    all_goals (refine bodyPost_ret (v := .tuple #[.agg #[.int .i64 0, .string ⟨#[]⟩, .int .i64 0, .int .i64 0], .int .i64 0]) ?_ rfl ⟨?_, ?_⟩; (· (simp [results, Tryz.results97, go_sem, *]; done)); (· rw [E.out]; exact rfl); (· exact (by repeat (first | exact Below.refl _ _ | assumption | refine Below.drew ?_ | refine Below.alloc ?_ (by first | (simp; done) | (simp; omega) | omega) _ | refine Below.setCell ?_ (by first | (simp; done) | (simp; omega) | omega) _))))

theorem one_any (s : ByteArray) (h : 0 < s.size) (w : World) (hs : s.size ≤ maxLen) :
    Calls Tryz.prog 97 #[.string s] w fun e w' => OnePost (tokenL s.data.toList) e ∧ Below w.heap.size w w' := by
  by_cases hl : isLetterB s[0].toNat = true
  · exact one_letter s h w hs hl
  · by_cases hd : isDigitB s[0].toNat = true
    · exact one_digit s h w hs hd
    · exact one_other s h w (by simpa using hl) (by simpa using hd)

end Go.Proofs.YtniejidekflmiaaGreatDoor
