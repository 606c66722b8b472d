import Derived.Test.YtniejidekflmiaaGreatDoorProg
import Derived.Test.YtniejidekflmiaaGreatDoorBase
import Derived.Test.YtniejidekflmiaaGreatDoorLexM
import Derived.Test.YtniejidekflmiaaGreatDoorShelf
import Derived.Lib.Space
import Derived.Lib.Fields
import Derived.Lib.SlicesS
import Derived.BigQuiet
import Derived.Deep.QuietTactic
import Derived.Deep.RegionHeld3
import Derived.RegionCalls
import Derived.Deep.RegionWith
namespace Go.Proofs.YtniejidekflmiaaGreatDoor
open Go.RowKit
set_option linter.unusedSimpArgs false

set_option maxHeartbeats 400000 in
theorem isLetter_any (c : Int) (w : World) :
    Calls Tryz.prog 133 #[.int .u8 c] w fun e w' => e = .returned (.bool (isLetterB c)) ∧ w = w' := by
  go_enter Tryz.func133, Tryz.ntmps133
  go_wp2
  all_goals (go_ret; simp [isLetterB]; try omega)

set_option maxHeartbeats 400000 in
theorem isDigit_any (c : Int) (w : World) :
    Calls Tryz.prog 135 #[.int .u8 c] w fun e w' => e = .returned (.bool (isDigitB c)) ∧ w = w' := by
  go_enter Tryz.func135, Tryz.ntmps135
  go_wp2
  all_goals (go_ret; simp [isDigitB]; try omega)

set_option maxHeartbeats 400000 in
theorem isMore_any (c : Int) (w : World) :
    Calls Tryz.prog 138 #[.int .u8 c] w fun e w' => e = .returned (.bool (isMoreB c)) ∧ w = w' := by
  go_enter Tryz.func138, Tryz.ntmps138
  go_wp2_with (first | (go_at_call 133; refine (isLetter_any _ _).mono ?_; rintro e w' ⟨rfl, rfl⟩) | (go_at_call 135; refine (isDigit_any _ _).mono ?_; rintro e w' ⟨rfl, rfl⟩))
  all_goals (go_ret; simp_all [isMoreB])

set_option maxHeartbeats 400000 in
theorem notFeed_any (c : Int) (w : World) :
    Calls Tryz.prog 132 #[.int .u8 c] w fun e w' => e = .returned (.bool (notFeedB c)) ∧ w = w' := by
  go_enter Tryz.func132, Tryz.ntmps132
  go_wp2
  all_goals (go_ret; simp [notFeedB])

def runN (s : ByteArray) (p : Int → Bool) : Nat := runL p s.data.toList

theorem takeWhile_len_step (p : UInt8 → Bool) (l : List UInt8) (k : Nat) (h : k ≤ (l.takeWhile p).length) (hk : k < l.length) :
    (p l[k] = true → k + 1 ≤ (l.takeWhile p).length) ∧ (p l[k] = false → (l.takeWhile p).length = k) := by
  induction l generalizing k with
  | nil => simp at hk
  | cons a l ih =>
    by_cases ha : p a
    · simp only [List.takeWhile_cons, ha, if_true, List.length_cons] at h ⊢
      cases k with
      | zero => simp [ha]
      | succ k =>
        have := ih k (by omega) (by simpa using hk)
        simp only [List.getElem_cons_succ]
        constructor
        · intro h1; have := this.1 h1; omega
        · intro h1; have := this.2 h1; omega
    · simp only [List.takeWhile_cons, ha] at h ⊢
      have : k = 0 := by simpa using h
      subst this
      simp [ha]

theorem run_step (s : ByteArray) (p : Int → Bool) (k : Nat) (hk : k ≤ runN s p) (hlt : k < s.size) :
    (p (s[k].toNat : Int) = true → k + 1 ≤ runN s p) ∧ (p (s[k].toNat : Int) = false → runN s p = k) := by
  have h := takeWhile_len_step (fun b => p b.toNat) s.data.toList k hk (by simpa using hlt)
  have e : s.data.toList[k]'(by simpa using hlt) = s[k] := rfl
  rw [e] at h
  exact h
theorem runN_le (s : ByteArray) (p : Int → Bool) : runN s p ≤ s.size := by
  have := runL_le p s.data.toList
  rw [list_size] at this
  exact this

set_option maxHeartbeats 400000 in
theorem run_any (s : ByteArray) (g : Nat) (p : Int → Bool) (w : World) (hs : s.size ≤ maxLen)
    (hc : ∀ args w, (callFunc g args).run Tryz.prog w = .ok (.enter g args) w)
    (hg : ∀ c w, Calls Tryz.prog g #[.int .u8 c] w fun e w' => e = .returned (.bool (p c)) ∧ w = w') :
    Calls Tryz.prog 131 #[.string s, .func (.func g) #[] #[]] w fun e w' => e = .returned (.int .i64 (runN s p)) ∧ w = w' := by
  unfold maxLen at hs
  have HG := Lib.hid hg; clear hg
  go_enter Tryz.func131, Tryz.ntmps131
  go_wp2
  go_loop [5] (fun i => ∃ k : Nat, k ≤ runN s p ∧ i = .int .i64 k) (fun i => s.size - (intOf i).toNat)
  case atStart => exact ⟨0, Nat.zero_le _, rfl⟩
  case round =>
    obtain ⟨k, hk, rfl⟩ := hrel
    go_wp2_with (refine (HG.out _ _).mono ?_; rintro e w' ⟨rfl, rfl⟩)
    · have hlt : k < s.size := by assumption
      exact ⟨⟨k + 1, (run_step s p k hk hlt).1 (by assumption), rfl⟩, by simp [intOf]; omega⟩
    · have hlt : k < s.size := by assumption
      go_ret
      exact ⟨ri (by rw [(run_step s p k hk hlt).2 (by assumption)]), rfl⟩
    · have hge : ¬ k < s.size := by assumption
      have := runN_le s p
      go_ret
      exact ⟨ri (by omega), rfl⟩

theorem runMore_any (s : ByteArray) (w : World) (hs : s.size ≤ maxLen) :
    Calls Tryz.prog 131 #[.string s, .func (.func 138) #[] #[]] w fun e w' => e = .returned (.int .i64 (runN s isMoreB)) ∧ w = w' :=
  run_any s _ _ w hs (fun _ _ => by kernel_rfl) isMore_any
theorem runDigit_any (s : ByteArray) (w : World) (hs : s.size ≤ maxLen) :
    Calls Tryz.prog 131 #[.string s, .func (.func 135) #[] #[]] w fun e w' => e = .returned (.int .i64 (runN s isDigitB)) ∧ w = w' :=
  run_any s _ _ w hs (fun _ _ => by kernel_rfl) isDigit_any
theorem runNote_any (s : ByteArray) (w : World) (hs : s.size ≤ maxLen) :
    Calls Tryz.prog 131 #[.string s, .func (.func 132) #[] #[]] w fun e w' => e = .returned (.int .i64 (runN s notFeedB)) ∧ w = w' :=
  run_any s _ _ w hs (fun _ _ => by kernel_rfl) notFeed_any

theorem List.getElem_zero_cons_tail {α : Type} : ∀ {l : List α} (h : 0 < l.length), l[0] :: l.tail = l
  | _ :: _, _ => rfl
theorem data_cons (s : ByteArray) (h : 0 < s.size) : s.data.toList = s[0] :: s.data.toList.tail := by
  have hl : 0 < s.data.toList.length := by rw [list_size]; exact h
  have e : s.data.toList[0] = s[0] := rfl
  rw [← e]
  exact (List.getElem_zero_cons_tail hl).symm
theorem gapL_at (s : ByteArray) (h : 0 < s.size) : gapL s.data.toList = if (s[0].toNat : Int) = 32 ∨ (s[0].toNat : Int) = 10 then 1 else if (s[0].toNat : Int) = 35 then runN s notFeedB else 0 := by
  have e := data_cons s h
  unfold runN
  generalize s.data.toList = l at *
  generalize s[0] = c at *
  rw [e]
  simp only [gapL]
  rw [← e]
  simp only [show ((c.toNat : Int) = 32) = (c.toNat = 32) by simp; omega, show ((c.toNat : Int) = 10) = (c.toNat = 10) by simp; omega, show ((c.toNat : Int) = 35) = (c.toNat = 35) by simp; omega]
set_option maxHeartbeats 400000 in
theorem gap_any (s : ByteArray) (h : 0 < s.size) (w : World) (hs : s.size ≤ maxLen) :
    Calls Tryz.prog 129 #[.string s] w fun e w' => e = .returned (.int .i64 (gapL s.data.toList)) ∧ w = w' := by
  rw [gapL_at s h]
  go_enter Tryz.func129, Tryz.ntmps129
  go_wp2_with (refine (runNote_any _ _ hs).mono ?_; rintro e w' ⟨rfl, rfl⟩)
  all_goals (go_ret; refine ⟨?_, rfl⟩; simp_all)

/-- what the variables of the library hold -/
def GOK (w : World) : Prop := Lib.TabIs Tryz.prog w "strings.asciiSpace" .u8 Lib.asciiSpaceTab
theorem GOK.below {w w' : World} (h : GOK w) (hb : Below w.heap.size w w') : GOK w' := Joins.tab_stays (g := 1) (by kernel_rfl) h hb (Nat.le_refl _)

def wordsT : List UInt8 := [114, 101, 108, 111, 97, 100, 32, 116, 97, 115, 107, 32, 112, 101, 114, 105, 111, 100, 32, 100, 101, 97, 100, 108, 105, 110, 101, 32, 102, 105, 120, 101, 100, 32, 102, 108, 111, 97, 116, 32, 116, 104, 114, 101, 115, 104, 32, 114, 101, 103, 105, 111, 110, 115, 32, 101, 99, 98, 32, 117, 99, 98]
theorem fields_words : Lib.fields wordsT = wordsL := by decide +kernel
def wordsC : Array Value := (wordsL.map fun l => Value.string ⟨l.toArray⟩).toArray
theorem words_any (w : World) (hG : GOK w) :
    Calls Tryz.prog 140 #[] w fun e w' => e = .returned (.slice (some ⟨w.heap.size, 0, none⟩) 10 10) ∧ w.alloc (.cells wordsC 9) = w' := by
  have c := Tryz.strings_Fields ⟨wordsT.toArray⟩ w (by decide) (by intro j b hb; have : ∀ b ∈ wordsT, b.toNat < 128 := by decide +kernel
                                                                   exact this b (List.mem_of_getElem? hb)) hG
  rw [show (⟨wordsT.toArray⟩ : ByteArray).data.toList = wordsT from rfl, fields_words] at c
  have C := Lib.hid c; clear c
  go_enter Tryz.func140, Tryz.ntmps140
  go_wp2_with (refine C.out.mono ?_; rintro e w' ⟨rfl, rfl⟩)
  go_ret
  exact ⟨rfl, rfl⟩

/-- the words' cells lie there -/
def WordsAt (w : World) (g : Nat) : Prop := ∀ o, o < 10 → w.cell? ⟨g, o, none⟩ = wordsC[o]?
theorem containsS_words (x : ByteArray) : Lib.containsS ((wordsL.map str).take 10) x = wordsL.contains x.data.toList := by
  rw [Bool.eq_iff_iff, Lib.containsS_iff, List.contains_iff_mem, List.take_of_length_le (by simp [wordsL])]
  constructor
  · intro h
    obtain ⟨l, hl, e⟩ := List.mem_map.1 h
    rw [← e]; exact hl
  · intro h; exact List.mem_map.2 ⟨_, h, rfl⟩
theorem contains_any (w : World) (g : Nat) (x : ByteArray) (h : WordsAt w g) :
    Calls Tryz.prog 139 #[.slice (some ⟨g, 0, none⟩) 10 10, .string x] w fun e w' => e = .returned (.bool (wordsL.contains x.data.toList)) ∧ w = w' := by
  refine (Tryz.slices_Contains_string g 0 10 10 (wordsL.map str) x w (by simp [wordsL]) (by omega) ?_).mono ?_
  · intro j hj
    rw [Nat.zero_add, h j (by simpa [wordsL] using hj)]
    have hj' : j < wordsL.length := by simpa using hj
    simp only [wordsC, List.getElem?_toArray, List.getElem?_map, List.getD, List.getElem?_eq_getElem hj', Option.map_some, Option.getD_some, str]
  · rintro e w' ⟨rfl, rfl⟩
    rw [containsS_words]
    exact ⟨rfl, rfl⟩

def nameKind (s : ByteArray) : Int := if wordsL.contains (s.extract 0 (runN s isMoreB)).data.toList then 3 else 1
def nameV (s : ByteArray) : Value := .tuple #[.agg #[.int .i64 (nameKind s), .string (s.extract 0 (runN s isMoreB)), .int .i64 0, .int .i64 0], .int .i64 (runN s isMoreB), .bool (decide ((runN s isMoreB : Int) ≤ 12))]
set_option maxHeartbeats 800000 in
theorem name_any (s : ByteArray) (w : World) (hs : s.size ≤ maxLen) (hG : GOK w) :
    Calls Tryz.prog 134 #[.string s] w fun e w' => e = .returned (nameV s) ∧ Below w.heap.size w w' := by
  have hn := runN_le s isMoreB
  unfold maxLen at hs
  go_enter Tryz.func134, Tryz.ntmps134
  go_wp2_with (refine (runMore_any _ _ (by unfold maxLen; omega)).mono ?_; rintro e w' ⟨rfl, rfl⟩)
  go_region_with (first
    | (go_at_call 140; refine (words_any _ ?_).mono ?_; exact hG.below (by repeat (first | exact Below.refl _ _ | assumption | refine Below.drew ?_ | refine Below.alloc ?_ (by first | (simp; done) | (simp; omega) | omega) _ | refine Below.setCell ?_ (by first | (simp; done) | (simp; omega) | omega) _)); rintro e w' ⟨rfl, rfl⟩)
    | (go_at_call 139; refine (contains_any _ _ _ ?_).mono ?_; intro o ho; exact World.cell?_alloc_at _ _ _ _ (by simp); rintro e w' ⟨rfl, rfl⟩))
  all_goals go_wp2
  all_goals exact bodyPost_ret (v := nameV s) (by simp [nameV, nameKind, results, Tryz.results134, go_sem, *]) rfl ⟨rfl, (by repeat (first | exact Below.refl _ _ | assumption | refine Below.drew ?_ | refine Below.alloc ?_ (by first | (simp; done) | (simp; omega) | omega) _ | refine Below.setCell ?_ (by first | (simp; done) | (simp; omega) | omega) _))⟩

theorem tail_val (l : List UInt8) (c : UInt8) : valL (l ++ [c]) = valL l * 10 + ((c.toNat : Int) - 48) := by simp [valL]
theorem take_snoc {α : Type} (l : List α) (k : Nat) (h : k < l.length) : l.take (k + 1) = l.take k ++ [l[k]] := by
  rw [List.take_succ_eq_append_getElem h]
theorem val_bound (n : Nat) : ∀ (l : List UInt8), l.length = n → (∀ c ∈ l, isDigitB c.toNat = true) → 0 ≤ valL l ∧ valL l + 1 ≤ 10 ^ n := by
  induction n with
  | zero => intro l hl _; obtain rfl := List.length_eq_zero_iff.1 hl; simp [valL]
  | succ n ih =>
    intro l hl h
    have e := List.dropLast_concat_getLast (l := l) (by intro e; simp [e] at hl)
    rw [← e] at h ⊢
    generalize l.getLast _ = c at h ⊢
    have h1 := ih l.dropLast (by simp; omega) fun x hx => h x (by simp [hx])
    have h2 := h c (by simp)
    simp [isDigitB] at h2
    rw [tail_val, Int.pow_succ]
    omega

theorem run_digits (s : ByteArray) (k : Nat) (hk : k ≤ runN s isDigitB) : (∀ c ∈ s.data.toList.take k, isDigitB c.toNat = true) := by
  intro c hc
  have h1 : c ∈ s.data.toList.takeWhile (fun b => isDigitB b.toNat) := by
    have e : s.data.toList.take k = (s.data.toList.takeWhile (fun b => isDigitB b.toNat)).take k := by
      have hp := List.takeWhile_prefix (fun b : UInt8 => isDigitB b.toNat) (l := s.data.toList)
      obtain ⟨r, hr⟩ := hp
      conv => lhs; rw [← hr]
      rw [List.take_append_of_le_length hk]
    rw [e] at hc
    exact List.mem_of_mem_take hc
  exact List.all_takeWhile (p := fun b : UInt8 => isDigitB b.toNat) (l := s.data.toList) |> List.all_eq_true.1 |> fun h => h c h1
theorem digit_at (s : ByteArray) (k : Nat) (hk : k < runN s isDigitB) : 48 ≤ ((s.data.toList.getD k 0).toNat : Int) ∧ ((s.data.toList.getD k 0).toNat : Int) ≤ 57 := by
  have hl : k < s.data.toList.length := Nat.lt_of_lt_of_le hk (runL_le _ _)
  have h := run_digits s (k + 1) hk (s.data.toList.getD k 0) (by rw [take_snoc _ _ hl, getD_at hl]; simp)
  simp [isDigitB] at h ⊢
  omega
theorem val_step (s : ByteArray) (k : Nat) (hk : k < runN s isDigitB) : valL (s.data.toList.take (k + 1)) = valL (s.data.toList.take k) * 10 + (((s.data.toList.getD k 0).toNat : Int) - 48) := by
  have hl : k < s.data.toList.length := Nat.lt_of_lt_of_le hk (runL_le _ _)
  rw [take_snoc _ _ hl, tail_val, getD_at hl]
theorem val_nine (s : ByteArray) (k : Nat) (hk : k ≤ runN s isDigitB) (h9 : k ≤ 9) : 0 ≤ valL (s.data.toList.take k) ∧ valL (s.data.toList.take k) ≤ 999999999 := by
  have h := val_bound k (s.data.toList.take k) (by rw [List.length_take]; have := runL_le isDigitB s.data.toList; unfold runN at hk; omega) (run_digits s k hk)
  have : (10 : Int) ^ k ≤ 10 ^ 9 := by
    have := Nat.pow_le_pow_right (show 0 < 10 by omega) h9
    exact_mod_cast this
  omega

def numberOk (s : ByteArray) (h : 0 < s.size) : Prop := runN s isDigitB ≤ 9 ∧ (runN s isDigitB ≤ 1 ∨ (s[0].toNat : Int) ≠ 48)
set_option maxHeartbeats 800000 in
theorem number_no (s : ByteArray) (h : 0 < s.size) (w : World) (hs : s.size ≤ maxLen) (hno : ¬ numberOk s h) :
    Calls Tryz.prog 136 #[.string s] w fun e w' => e = .returned (.tuple #[.agg #[.int .i64 2, .string ⟨#[]⟩, .int .i64 0, .int .i64 0], .int .i64 (runN s isDigitB), .bool false]) ∧ Below w.heap.size w w' := by
  have hn := runN_le s isDigitB
  unfold maxLen at hs
  have H := Lib.hid hno; clear hno
  have kb := fun W => Lib.run_convert_string_bytes (P := Tryz.prog) W 9 190 5 (s.extract 0 (runN s isDigitB)) Tryz.underlying9 Tryz.underlying190 Tryz.underlying5
  go_enter Tryz.func136, Tryz.ntmps136
  go_wp2_with (refine (runDigit_any _ _ (by unfold maxLen; omega)).mono ?_; rintro e w' ⟨rfl, rfl⟩)
  all_goals first
    | (exfalso; apply H.out; unfold numberOk; simp_all <;> omega)
    | exact bodyPost_ret (v := .tuple #[.agg #[.int .i64 2, .string ⟨#[]⟩, .int .i64 0, .int .i64 0], .int .i64 (runN s isDigitB), .bool false]) (by simp [results, Tryz.results136, go_sem, *]) rfl ⟨rfl, (by repeat (first | exact Below.refl _ _ | assumption | refine Below.drew ?_ | refine Below.alloc ?_ (by first | (simp; done) | (simp; omega) | omega) _ | refine Below.setCell ?_ (by first | (simp; done) | (simp; omega) | omega) _))⟩

set_option maxHeartbeats 1600000 in
theorem number_ok (s : ByteArray) (h : 0 < s.size) (w : World) (hs : s.size ≤ maxLen) (hok : numberOk s h) :
    Calls Tryz.prog 136 #[.string s] w fun e w' => e = .returned (.tuple #[.agg #[.int .i64 2, .string ⟨#[]⟩, .int .i64 (valL (s.data.toList.take (runN s isDigitB))), .int .i64 0], .int .i64 (runN s isDigitB), .bool true]) ∧ Below w.heap.size w w' := by
  have hn := runN_le s isDigitB
  have h9 := hok.1
  unfold maxLen at hs
  have H := Lib.hid hok; clear hok
  have kb := fun W => Lib.run_convert_string_bytes (P := Tryz.prog) W 9 190 5 (s.extract 0 (runN s isDigitB)) Tryz.underlying9 Tryz.underlying190 Tryz.underlying5
  go_enter Tryz.func136, Tryz.ntmps136
  go_wp2_with (refine (runDigit_any _ _ (by unfold maxLen; omega)).mono ?_; rintro e w' ⟨rfl, rfl⟩)
  all_goals try (exfalso; have := H.out; unfold numberOk at this; simp_all <;> omega)
  all_goals
    generalize hW : Lib.bytesWorld _ _ _ = W
    have HW := Lib.hid hW; clear hW
    go_loopw [30] (fun i wr => ∃ k : Nat, k ≤ runN s isDigitB ∧ i = .int .i64 k ∧ Below w.heap.size w wr ∧ wr.heap.size = w.heap.size + 3 ∧ Blk wr w.heap.size #[.int .i64 0, .string ⟨#[]⟩, .int .i64 0, .int .i64 0] 153 ∧ Blk wr (w.heap.size + 1) #[.int .i64 2, .string ⟨#[]⟩, .int .i64 (valL (s.data.toList.take k)), .int .i64 0] 153 ∧ ∀ j, j < runN s isDigitB → wr.cell? ⟨w.heap.size + 2, j, none⟩ = some (.int .u8 (s.data.toList.getD j 0).toNat)) (fun i _ => runN s isDigitB - (intOf i).toNat)
    case atStart =>
      obtain rfl := HW.out
      exact ⟨0, Nat.zero_le _, rfl, Joins.below_bytesWorld _ _ _ _ (by simp; omega) |> Below.trans (by repeat (first | exact Below.refl _ _ | assumption | refine Below.drew ?_ | refine Below.alloc ?_ (by first | (simp; done) | (simp; omega) | omega) _ | refine Below.setCell ?_ (by first | (simp; done) | (simp; omega) | omega) _)), by rw [Lib.bytesWorld_size]; simp, ((Blk.new _ _ _).alloc _).bytes _ _, (Blk.new_at _ _ _ _ (by simp)).bytes _ _, fun j hj => by
        have hsz : (s.extract 0 (runN s isDigitB)).size = runN s isDigitB := by rw [← list_size, extract_from, List.length_take, list_size]; omega
        have := Lib.bytesWorld_cell ((w.alloc (.cells #[.int .i64 0, .string ⟨#[]⟩, .int .i64 0, .int .i64 0] 153)).alloc (.cells #[.int .i64 2, .string ⟨#[]⟩, .int .i64 0, .int .i64 0] 153)) 5 (s.extract 0 (runN s isDigitB)) j (by omega)
        rw [size_alloc, size_alloc, extract_from, List.getD_eq_getElem?_getD, List.getElem?_take_of_lt hj, ← List.getD_eq_getElem?_getD] at this
        exact this⟩
    case round =>
      obtain ⟨k, hk, rfl, hb, hz, hb0, hb1, hc⟩ := hrel
      have c0 := hb0.cell; have f0 := hb0.free; have c1 := hb1.cell; have f1 := hb1.free
      have hck : k < runN s isDigitB → wr.cell? ⟨w.heap.size + 2, k, none⟩ = some (.int .u8 (s.data.toList.getD k 0).toNat) := hc k
      have ⟨hv0, hv1⟩ := val_nine s k hk (by omega)
      have HZ := Lib.hid hz; clear hz
      have HC := Lib.hid hc; clear hc
      by_cases hlt : k < runN s isDigitB
      · have ⟨hd0, hd1⟩ := digit_at s k hlt
        have hcell := hck hlt
        have HS := Lib.hid (val_step s k hlt)
        clear hck
        generalize ((s.data.toList.getD k 0).toNat : Int) = c at hcell hd0 hd1 HS
        go_wp2
        exact ⟨⟨k + 1, hlt, rfl, hb.setCell (by simp) _, by rw [size_setCell]; exact HZ.out, hb0.far (by simp) _, by rw [HS.out]; exact hb1.set 2 _, fun j hj => by rw [cell_far (by simp)]; exact HC.out j hj⟩, by simp [intOf]; omega⟩
      · go_wp2
        have e : runN s isDigitB = k := by omega
        rw [e]
        exact bodyPost_ret (v := .tuple #[.agg #[.int .i64 2, .string ⟨#[]⟩, .int .i64 (valL (s.data.toList.take k)), .int .i64 0], .int .i64 k, .bool true]) (by simp [results, Tryz.results136, go_sem, *]) rfl ⟨rfl, (((hb.setCell (by simp) _).setCell (by simp) _).setCell (by simp) _).setCell (by simp) _⟩
end Go.Proofs.YtniejidekflmiaaGreatDoor
namespace Go.Proofs.YtniejidekflmiaaGreatDoor
open Go.RowKit
set_option linter.unusedSimpArgs false

def tokCells (t : Tok) : List Value := [.int .i64 t.kind, .string t.text, .int .i64 t.n, .int .i64 t.at_]
/-- what the function token answers -/
def TokPost : Option (Tok × Nat) → Ending → Prop
  | some (t, n), e => e = .returned (.tuple #[.agg #[.int .i64 t.kind, .string t.text, .int .i64 t.n, .int .i64 t.at_], .int .i64 n, .bool true])
  | none, e => ∃ (t : Tok) (n : Nat), e = .returned (.tuple #[.agg #[.int .i64 t.kind, .string t.text, .int .i64 t.n, .int .i64 t.at_], .int .i64 n, .bool false])

theorem tokenL_letter (s : ByteArray) (h : 0 < s.size) (hl : isLetterB s[0].toNat = true) :
    tokenL s.data.toList = if runN s isMoreB ≤ 12 then some (⟨if wordsL.contains (s.extract 0 (runN s isMoreB)).data.toList then 3 else 1, s.extract 0 (runN s isMoreB), 0, 0⟩, runN s isMoreB) else none := by
  have hx : s.extract 0 (runN s isMoreB) = ⟨(s.data.toList.take (runN s isMoreB)).toArray⟩ := ba_ext (by rw [extract_from])
  rw [extract_from, hx]
  unfold runN
  have e := data_cons s h
  unfold tokenL
  rw [e]
  simp only [hl, if_true]
theorem tokenL_digit (s : ByteArray) (h : 0 < s.size) (hl : isLetterB s[0].toNat = false) (hd : isDigitB s[0].toNat = true) :
    (numberOk s h → tokenL s.data.toList = some (⟨2, ⟨#[]⟩, valL (s.data.toList.take (runN s isDigitB)), 0⟩, runN s isDigitB)) ∧ (¬ numberOk s h → tokenL s.data.toList = none) := by
  unfold numberOk runN
  have e := data_cons s h
  have e2 : tokenL s.data.toList = if runL isDigitB s.data.toList ≤ 9 ∧ (runL isDigitB s.data.toList ≤ 1 ∨ s[0].toNat ≠ 48) then some (⟨2, ⟨#[]⟩, valL (s.data.toList.take (runL isDigitB s.data.toList)), 0⟩, runL isDigitB s.data.toList) else none := by
    unfold tokenL
    rw [e]
    simp only [hl, hd, if_true, Bool.false_eq_true, if_false]
  have hc : ((s[0].toNat : Int) ≠ 48) = (s[0].toNat ≠ 48) := by simp; omega
  rw [e2, hc]
  exact ⟨fun k => if_pos k, fun k => if_neg k⟩
theorem tokenL_other (s : ByteArray) (h : 0 < s.size) (hl : isLetterB s[0].toNat = false) (hd : isDigitB s[0].toNat = false) :
    tokenL s.data.toList = if Lib.hasPrefix s.data.toList [59] then some (⟨3, ⟨#[59]⟩, 0, 0⟩, 1) else none := by
  have e := data_cons s h
  unfold tokenL
  rw [e]
  have hc : Lib.hasPrefix (s[0] :: s.data.toList.tail) [59] = (s[0].toNat == 59) := by
    unfold Lib.hasPrefix
    rw [List.isPrefixOf_cons_cons]
    simp only [List.isPrefixOf, Bool.and_true]
    rw [Bool.eq_iff_iff, beq_iff_eq, beq_iff_eq, ← UInt8.toNat_inj, eq_comm]
    rfl
  rw [hc]
  simp only [hl, hd, Bool.false_eq_true, if_false, beq_iff_eq]

set_option maxHeartbeats 800000 in
theorem token_any (s : ByteArray) (h : 0 < s.size) (w : World) (hs : s.size ≤ maxLen) (hG : GOK w) :
    Calls Tryz.prog 130 #[.string s] w fun e w' => TokPost (tokenL s.data.toList) e ∧ Below w.heap.size w w' := by
  by_cases hl : isLetterB s[0].toNat = true
  · have e := Lib.hid (tokenL_letter s h hl)
    go_enter Tryz.func130, Tryz.ntmps130
    go_wp2_with (first | (go_at_call 133; refine (isLetter_any _ _).mono ?_; rintro e w' ⟨rfl, rfl⟩) | (go_at_call 134; refine (name_any _ _ hs ?_).mono ?_; exact hG.below (by repeat (first | exact Below.refl _ _ | assumption | refine Below.drew ?_ | refine Below.alloc ?_ (by first | (simp; done) | (simp; omega) | omega) _ | refine Below.setCell ?_ (by first | (simp; done) | (simp; omega) | omega) _)); rintro e w1 ⟨rfl, hb⟩; unfold nameV; have hB0 := (Blk.new _ _ _).below hb (by first | (simp; done) | (simp; omega) | omega); have cB0 := hB0.cell; have fB0 := hB0.free))
    refine bodyPost_ret (v := .tuple #[.agg #[.int .i64 (nameKind s), .string (s.extract 0 (runN s isMoreB)), .int .i64 0, .int .i64 0], .int .i64 (runN s isMoreB), .bool (decide ((runN s isMoreB : Int) ≤ 12))]) (by simp [results, Tryz.results130, go_sem, *]) rfl ⟨?_, ?_⟩
    · rw [e.out]
      split
      · rename_i h12
        rw [decide_eq_true (show ((runN s isMoreB : Int) ≤ 12) by omega)]
        exact rfl
      · rename_i h12
        rw [decide_eq_false (show ¬ ((runN s isMoreB : Int) ≤ 12) by omega)]
        exact ⟨⟨_, _, _, _⟩, _, rfl⟩
    · exact ((((Below.trans (by repeat (first | exact Below.refl _ _ | assumption | refine Below.drew ?_ | refine Below.alloc ?_ (by first | (simp; done) | (simp; omega) | omega) _ | refine Below.setCell ?_ (by first | (simp; done) | (simp; omega) | omega) _)) (hb.mono (by first | (simp; done) | (simp; omega) | omega))).setCell (by simp) _).setCell (by simp) _).setCell (by simp) _).setCell (by simp) _
  · have hl' : isLetterB s[0].toNat = false := by simpa using hl
    clear hl
    by_cases hd : isDigitB s[0].toNat = true
    · have e := tokenL_digit s h hl' hd
      by_cases hok : numberOk s h
      · have E := Lib.hid (e.1 hok)
        clear e
        go_enter Tryz.func130, Tryz.ntmps130
        go_wp2_with (first | (go_at_call 133; refine (isLetter_any _ _).mono ?_; rintro e w' ⟨rfl, rfl⟩) | (go_at_call 135; refine (isDigit_any _ _).mono ?_; rintro e w' ⟨rfl, rfl⟩) | (go_at_call 136; refine (number_ok _ h _ hs hok).mono ?_; rintro e w1 ⟨rfl, hb⟩; have hB0 := (Blk.new _ _ _).below hb (by first | (simp; done) | (simp; omega) | omega); have cB0 := hB0.cell; have fB0 := hB0.free))
        refine bodyPost_ret (v := .tuple #[.agg #[.int .i64 2, .string ⟨#[]⟩, .int .i64 (valL (s.data.toList.take (runN s isDigitB))), .int .i64 0], .int .i64 (runN s isDigitB), .bool true]) (by simp [results, Tryz.results130, go_sem, *]) rfl ⟨?_, ?_⟩
        · rw [E.out]
          exact rfl
        · exact ((((Below.trans (by repeat (first | exact Below.refl _ _ | assumption | refine Below.drew ?_ | refine Below.alloc ?_ (by first | (simp; done) | (simp; omega) | omega) _ | refine Below.setCell ?_ (by first | (simp; done) | (simp; omega) | omega) _)) (hb.mono (by first | (simp; done) | (simp; omega) | omega))).setCell (by simp) _).setCell (by simp) _).setCell (by simp) _).setCell (by simp) _
      · have E := Lib.hid (e.2 hok)
        clear e
        go_enter Tryz.func130, Tryz.ntmps130
        go_wp2_with (first | (go_at_call 133; refine (isLetter_any _ _).mono ?_; rintro e w' ⟨rfl, rfl⟩) | (go_at_call 135; refine (isDigit_any _ _).mono ?_; rintro e w' ⟨rfl, rfl⟩) | (go_at_call 136; refine (number_no _ h _ hs hok).mono ?_; rintro e w1 ⟨rfl, hb⟩; have hB0 := (Blk.new _ _ _).below hb (by first | (simp; done) | (simp; omega) | omega); have cB0 := hB0.cell; have fB0 := hB0.free))
        refine bodyPost_ret (v := .tuple #[.agg #[.int .i64 2, .string ⟨#[]⟩, .int .i64 0, .int .i64 0], .int .i64 (runN s isDigitB), .bool false]) (by simp [results, Tryz.results130, go_sem, *]) rfl ⟨?_, ?_⟩
        · rw [E.out]
          exact ⟨⟨_, _, _, _⟩, _, rfl⟩
        · exact ((((Below.trans (by repeat (first | exact Below.refl _ _ | assumption | refine Below.drew ?_ | refine Below.alloc ?_ (by first | (simp; done) | (simp; omega) | omega) _ | refine Below.setCell ?_ (by first | (simp; done) | (simp; omega) | omega) _)) (hb.mono (by first | (simp; done) | (simp; omega) | omega))).setCell (by simp) _).setCell (by simp) _).setCell (by simp) _).setCell (by simp) _
    · have hd' : isDigitB s[0].toNat = false := by simpa using hd
      clear hd
      have E := Lib.hid (tokenL_other s h hl' hd')
      go_enter Tryz.func130, Tryz.ntmps130
      go_wp2_with (first | (go_at_call 133; refine (isLetter_any _ _).mono ?_; rintro e w' ⟨rfl, rfl⟩) | (go_at_call 135; refine (isDigit_any _ _).mono ?_; rintro e w' ⟨rfl, rfl⟩) | (go_at_call 137; refine (Tryz.strings_HasPrefix _ _ _).mono ?_; rintro e w' ⟨rfl, rfl⟩))
      · have hp : Lib.hasPrefix s.data.toList [59] = true := by assumption
        refine bodyPost_ret (v := .tuple #[.agg #[.int .i64 3, .string ⟨#[59]⟩, .int .i64 0, .int .i64 0], .int .i64 1, .bool true]) (by simp [results, Tryz.results130, go_sem, *]) rfl ⟨?_, (by repeat (first | exact Below.refl _ _ | assumption | refine Below.drew ?_ | refine Below.alloc ?_ (by first | (simp; done) | (simp; omega) | omega) _ | refine Below.setCell ?_ (by first | (simp; done) | (simp; omega) | omega) _))⟩
        rw [E.out, hp]
        exact rfl
      · have hp : Lib.hasPrefix s.data.toList [59] = false := by assumption
        refine bodyPost_ret (v := .tuple #[.agg #[.int .i64 0, .string ⟨#[]⟩, .int .i64 0, .int .i64 0], .int .i64 0, .bool false]) (by simp [results, Tryz.results130, go_sem, *]) rfl ⟨?_, (by repeat (first | exact Below.refl _ _ | assumption | refine Below.drew ?_ | refine Below.alloc ?_ (by first | (simp; done) | (simp; omega) | omega) _ | refine Below.setCell ?_ (by first | (simp; done) | (simp; omega) | omega) _))⟩
        rw [E.out, hp]
        exact ⟨⟨_, _, _, _⟩, 0, rfl⟩
end Go.Proofs.YtniejidekflmiaaGreatDoor
namespace Go.Proofs.YtniejidekflmiaaGreatDoor
open Go.RowKit
set_option linter.unusedSimpArgs false
attribute [local go_sem] setCell_twice

def TokR : World → Nat → Nat → Tok → Prop := fun w b o t => w.cell? ⟨b, o, none⟩ = some (.int .i64 t.kind) ∧ w.cell? ⟨b, o + 1, none⟩ = some (.string t.text) ∧ w.cell? ⟨b, o + 2, none⟩ = some (.int .i64 t.n) ∧ w.cell? ⟨b, o + 3, none⟩ = some (.int .i64 t.at_)

theorem info_Tok : (Tryz.prog.info? 153).map (fun i => (i.zero, i.size, i.bytes)) = some (some (.agg #[.int .i64 0, .string ⟨#[]⟩, .int .i64 0, .int .i64 0]), 4, 40) := by kernel_rfl
theorem tokR_of (w : World) (b o : Nat) (x : Tok) (h : ∀ j u, (tokCells x)[j]? = some u → w.cell? ⟨b, o + j, none⟩ = some u) : TokR w b o x :=
  ⟨h 0 _ rfl, h 1 _ rfl, h 2 _ rfl, h 3 _ rfl⟩
/-- the frame at the label: what is gathered, the place -/
def LexJ (s : ByteArray) (w : World) (R : List Tok × Nat × Int) (a : Act) (w' : World) : Prop :=
  ∃ (v : Value) (acc : List Tok) (at_ f : Nat) (u6 u7 u8 u9 u10 u11 u12 u13 u14 u15 u16 u17 u18 u19 u20 u21 u22 u23 u24 u25 u26 u27 u28 u29 u30 u31 u32 u33 u34 u35 u36 u37 u38 u39 u40 u41 u42 u43 u44 u45 u46 u47 u48 u49 : Value) (c0 c1 c2 c3 : Value),
    a = { tmps := #[.string s, undef, v, .int .i64 at_, .int .i64 0, .pointer (some ⟨w.heap.size, 0, none⟩), u6, u7, u8, u9, u10, u11, u12, u13, u14, u15, u16, u17, u18, u19, u20, u21, u22, u23, u24, u25, u26, u27, u28, u29, u30, u31, u32, u33, u34, u35, u36, u37, u38, u39, u40, u41, u42, u43, u44, u45, u46, u47, u48, u49], defers := [] } ∧
    at_ ≤ s.size ∧ acc.length ≤ at_ ∧ s.size < at_ + f ∧ scan f at_ (s.data.toList.drop at_) acc = R ∧ Below w.heap.size w w' ∧ w.heap.size < w'.heap.size ∧ Blk w' w.heap.size #[c0, c1, c2, c3] 153 ∧
    OwnL tokCells w' (w.heap.size + 1) 153 4 v acc

def TokensPost (w : World) : List Tok × Nat × Int → Ending → World → Prop := fun R e w' =>
  ∃ v, e = .returned (.tuple #[v, .int .i64 R.2.1, .int .i64 R.2.2]) ∧ SlR TokR 4 (fun b => w.heap.size ≤ b ∧ b < w'.heap.size) w' v R.1 ∧ Below w.heap.size w w'

set_option maxHeartbeats 1600000 in
set_option maxRecDepth 100000 in
theorem tokens_any (s : ByteArray) (w : World) (hs : s.size ≤ maxLen) (hG : GOK w) :
    Calls Tryz.prog 125 #[.string s] w fun e w' => TokensPost w (tokensL s.data.toList) e w' := by
  by_cases hlen : s.size ≤ 4000
  · have hR : tokensL s.data.toList = scan (s.size + 1) 0 s.data.toList [] := by unfold tokensL; rw [list_size, if_neg (by omega)]
    rw [hR]
    generalize hR2 : scan (s.size + 1) 0 s.data.toList [] = R
    have HR := Lib.hid hR2; clear hR hR2
    go_enter Tryz.func125, Tryz.ntmps125
    go_wp2
    refine wp_scope_label 0 (LexJ s w R) (fun a' _ => s.size - (intOf (a'.tmps.getD 3 undef)).toNat) rfl ?_ ?_
    · intro hp
      have HP := Lib.hid hp; clear hp
      go_wp2
      go_step3
      go_step
      go_step
      refine HP.out _ _ ⟨_, [], 0, s.size + 1, _, _, _, _, _, _, _, _, _, _, _, _, _, _, _, _, _, _, _, _, _, _, _, _, _, _, _, _, _, _, _, _, _, _, _, _, _, _, _, _, _, _, _, _, _, _, _, _, rfl, Nat.zero_le _, Nat.le_refl _, by omega, HR.out, (by repeat (first | exact Below.refl _ _ | assumption | refine Below.drew ?_ | refine Below.alloc ?_ (by first | (simp; done) | (simp; omega) | omega) _ | refine Below.setCell ?_ (by first | (simp; done) | (simp; omega) | omega) _)), (by first | (simp; done) | (simp; omega) | omega), Blk.new _ _ _, OwnL.nil⟩
    · rintro a' w' ⟨v, acc, at_, f, u6, u7, u8, u9, u10, u11, u12, u13, u14, u15, u16, u17, u18, u19, u20, u21, u22, u23, u24, u25, u26, u27, u28, u29, u30, u31, u32, u33, u34, u35, u36, u37, u38, u39, u40, u41, u42, u43, u44, u45, u46, u47, u48, u49, c0, c1, c2, c3, rfl, h1, h2, h3, h4, hb, hz, hB, hown⟩
      have HH := Lib.hid h4; clear h4
      have cB := hB.cell; have fB := hB.free
      obtain ⟨f, rfl⟩ : ∃ m, f = m + 1 := ⟨f - 1, by omega⟩
      have hlt3 : w.heap.size + 1 ≤ w'.heap.size := hz
      by_cases he : at_ = s.size
      · subst he
        go_wp2_with (at_builtin; refine wpList_app1 rfl _ _ 178 rfl (w.heap.size + 1) 153 _ 4 40 Tryz.underlying178 info_Tok rfl (by decide) tokCells acc _ rfl (hown.alloc _) ⟨4, ⟨#[]⟩, 0, s.size⟩ _ rfl rfl ?c1 ?c2 ?c3 (by decide) ?c5 ?_)
        case c1 => intro j u hu; rw [(Blk.new _ _ _).cell]; simpa [tokCells] using hu
        case c2 => simp [tokCells, Value.oneCell']
        case c3 => omega
        case c5 => simp; omega
        intro v1 w1 hown1 hg1 hne
        go_wp2
        simp only [Exit.jump]
        go_ret3
        have hb1 : Below w.heap.size w w1 := Below.trans hb (((Below.refl _ _).alloc (by omega) _).grown hg1 (by simp; omega) (fun k hk => by have := hown.lt k hk; omega))
        have e : R = (acc ++ [⟨4, ⟨#[]⟩, 0, s.size⟩], s.size, 0) := by
          rw [← HH.out, List.drop_eq_nil_of_le (by rw [list_size]; omega)]
          rfl
        rw [e]
        refine ⟨v1, rfl, ?_, hb1⟩
        exact hown1.read (fun _ => rfl) (fun b h1 h2 => ⟨by omega, h2⟩) (fun b o x _ h => tokR_of w1 b o x h)
      · have hlt : at_ < s.size := by omega
        have hG' := hG.below hb
        have hsz : (s.extract at_ s.size).size = s.size - at_ := by rw [← list_size, extract_to_end, List.length_drop, list_size]
        have HS := Lib.hid hsz
        have gp := gap_any (s.extract at_ s.size) (by omega) w' (by unfold maxLen at *; omega)
        have gl := gapL_le (s.data.toList.drop at_)
        rw [extract_to_end] at gp
        rw [List.length_drop, list_size] at gl
        obtain ⟨c, l, hcl⟩ : ∃ c l, s.data.toList.drop at_ = c :: l := by
          cases hd : s.data.toList.drop at_ with
          | nil => have := congrArg List.length hd; rw [List.length_drop, list_size] at this; simp at this; omega
          | cons c l => exact ⟨c, l, rfl⟩
        have HCL := Lib.hid hcl; clear hcl
        by_cases hg : 0 < gapL (s.data.toList.drop at_)
        · have hsc : scan f (at_ + gapL (s.data.toList.drop at_)) (s.data.toList.drop (at_ + gapL (s.data.toList.drop at_))) acc = R := by
            rw [← HH.out, ← List.drop_drop]
            generalize s.data.toList.drop at_ = L at hg HCL
            rw [HCL.out] at hg ⊢
            rw [scan, if_pos hg]
          have HSC := Lib.hid hsc; clear hsc
          generalize gapL (s.data.toList.drop at_) = g at *
          go_wp2_with (first | (go_at_call 129; refine gp.mono ?_; rintro e w1 ⟨rfl, rfl⟩))
          go_step3
          refine (show 0 = 0 ∧ LexJ s w R _ _ ∧ _ from ⟨rfl, ⟨v, acc, at_ + g, f, _, _, _, _, _, _, _, _, _, _, _, _, _, _, _, _, _, _, _, _, _, _, _, _, _, _, _, _, _, _, _, _, _, _, _, _, _, _, _, _, _, _, _, _, _, _, _, _, rfl, by omega, by omega, by omega, HSC.out, hb, hz, hB, hown⟩, ?_⟩)
          simp [intOf]
          omega
        · have hg0 : gapL (s.data.toList.drop at_) = 0 := by omega
          rw [hg0] at gp
          have tk := token_any (s.extract at_ s.size) (by omega) w' (by unfold maxLen at *; omega) hG'
          rw [extract_to_end] at tk
          have hsc : (tokenL (s.data.toList.drop at_) = none → R = ([], at_, 2)) ∧ ∀ t n, tokenL (s.data.toList.drop at_) = some (t, n) → scan f (at_ + n) (s.data.toList.drop (at_ + n)) (acc ++ [{ t with at_ := at_ }]) = R := by
            rw [← HH.out]
            simp only [← List.drop_drop]
            generalize s.data.toList.drop at_ = L at hg HCL
            rw [HCL.out] at hg ⊢
            rw [scan, if_neg hg]
            constructor
            · intro h; rw [h]
            · intro t n h; rw [h]
          clear gl hg hg0 HCL
          cases htk : tokenL (s.data.toList.drop at_) with
          | none =>
            rw [htk] at tk
            have HSC := Lib.hid (hsc.1 htk); clear hsc htk
            go_wp2_with (first | (go_at_call 129; refine gp.mono ?_; rintro e w1 ⟨rfl, rfl⟩) | (go_at_call 130; refine tk.mono ?_; rintro e w1 ⟨⟨t, n, rfl⟩, hb1⟩; have hB1 := (hB).below hb1 (by first | (simp; done) | (simp; omega) | omega); have cB1 := hB1.cell; have fB1 := hB1.free))
            simp only [Exit.jump]
            go_ret3
            rw [HSC.out]
            exact ⟨_, rfl, SlR.nil _ _ _ _, (((((hb.trans (hb1.mono hb.size)).setCell (by simp) _).setCell (by simp) _).setCell (by simp) _).setCell (by simp) _)⟩
          | some x =>
            obtain ⟨t, n⟩ := x
            rw [htk] at tk
            have hn := tokenL_some htk
            rw [List.length_drop, list_size] at hn
            have HSC := Lib.hid (hsc.2 t n htk); clear hsc htk
            go_wp2_with (first | (go_at_call 129; refine gp.mono ?_; rintro e w1 ⟨rfl, rfl⟩) | (go_at_call 130; refine tk.mono ?_; rintro e w1 ⟨rfl, hb1⟩; have hB1 := (hB).below hb1 (by first | (simp; done) | (simp; omega) | omega); have cB1 := hB1.cell; have fB1 := hB1.free; have hown1 := Lib.hid (hown.below hb1)) | (at_builtin; refine wpList_app1 rfl _ _ 178 rfl (w.heap.size + 1) 153 _ 4 40 Tryz.underlying178 info_Tok rfl (by decide) tokCells acc _ rfl ?own { t with at_ := at_ } _ rfl rfl ?c1 ?c2 ?c3 (by decide) ?c5 ?_))
            case own => exact ((((((hown1.out.set (fun hk => by have := hown.lt _ hk; simp at this; omega) _).set (fun hk => by have := hown.lt _ hk; simp at this; omega) _).set (fun hk => by have := hown.lt _ hk; simp at this; omega) _).set (fun hk => by have := hown.lt _ hk; simp at this; omega) _)).alloc _)
            case c1 => intro j u hu; rw [Blk.cell (Blk.new_at _ _ _ _ (by simp))]; simpa [tokCells] using hu
            case c2 => simp [tokCells, Value.oneCell']
            case c3 => omega
            case c5 => have := hb1.size; simp; omega
            intro v2 w2 hown2 hg2 hne2
            have hb0 : Below w.heap.size w (((((w1.setCell ⟨w.heap.size, 0, none⟩ (.int .i64 t.kind)).setCell ⟨w.heap.size, 1, none⟩ (.string t.text)).setCell ⟨w.heap.size, 2, none⟩ (.int .i64 t.n)).setCell ⟨w.heap.size, 3, none⟩ (.int .i64 at_)).alloc (.cells #[.int .i64 t.kind, .string t.text, .int .i64 t.n, .int .i64 at_] 153)) :=
              (((((hb.trans (hb1.mono hb.size)).setCell (by simp) _).setCell (by simp) _).setCell (by simp) _).setCell (by simp) _).alloc (by have := hb1.size; simp; omega) _
            have hb2 := hb0.grown hg2 (by have := hb1.size; simp; omega) (fun k hk => by have := hown.lt k hk; omega)
            have hB2 : Blk w2 w.heap.size #[.int .i64 t.kind, .string t.text, .int .i64 t.n, .int .i64 at_] 153 :=
              (((((hB1.set 0 _).set 1 _).set 2 _).set 3 _).alloc _).grown hg2 (fun hk => by have := hown.lt _ hk; omega)
            have hz2 : w.heap.size < w2.heap.size := hB2.lt
            go_wp2
            go_step3
            refine (show 0 = 0 ∧ LexJ s w R _ _ ∧ _ from ⟨rfl, ⟨v2, acc ++ [{ t with at_ := at_ }], at_ + n, f, _, _, _, _, _, _, _, _, _, _, _, _, _, _, _, _, _, _, _, _, _, _, _, _, _, _, _, _, _, _, _, _, _, _, _, _, _, _, _, _, _, _, _, _, _, _, _, _, rfl, by omega, by rw [List.length_append, List.length_singleton]; omega, by omega, HSC.out, hb2, hz2, hB2, hown2⟩, ?_⟩)
            simp [intOf]
            omega
  · have hR : tokensL s.data.toList = ([], 0, 3) := by unfold tokensL; rw [list_size, if_pos (by omega)]
    rw [hR]
    go_enter Tryz.func125, Tryz.ntmps125
    go_wp2
    go_step3
    go_wp2
    try rw [Exit.noGoto_ret]
    go_ret3
    exact ⟨_, rfl, SlR.nil _ _ _ _, (by repeat (first | exact Below.refl _ _ | assumption | refine Below.drew ?_ | refine Below.alloc ?_ (by first | (simp; done) | (simp; omega) | omega) _ | refine Below.setCell ?_ (by first | (simp; done) | (simp; omega) | omega) _))⟩
end Go.Proofs.YtniejidekflmiaaGreatDoor
