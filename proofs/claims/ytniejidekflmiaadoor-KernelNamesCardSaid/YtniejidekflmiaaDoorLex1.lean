import Derived.Test.YtniejidekflmiaaDoorProg
import Derived.Test.YtniejidekflmiaaDoorBase
import Derived.Test.YtniejidekflmiaaDoorLexM
import Derived.Test.YtniejidekflmiaaDoorShelf
import Derived.Lib.Space
import Derived.Lib.Fields
import Derived.Lib.SlicesS
import Derived.BigQuiet
import Derived.Deep.QuietTactic
import Derived.Deep.RegionHeld3
import Derived.RegionCalls
namespace Go.Proofs.YtniejidekflmiaaDoor
open Go.RowKit
set_option linter.unusedSimpArgs false

set_option maxHeartbeats 400000 in
theorem isLetter_any (c : Int) (w : World) :
    Calls Tryd.prog 93 #[.int .u8 c] w fun e w' => e = .returned (.bool (isLetterB c)) ∧ w = w' := by
  go_enter Tryd.func93, Tryd.ntmps93
  go_wp2
  all_goals (go_ret; simp [isLetterB]; try omega)

set_option maxHeartbeats 400000 in
theorem isDigit_any (c : Int) (w : World) :
    Calls Tryd.prog 95 #[.int .u8 c] w fun e w' => e = .returned (.bool (isDigitB c)) ∧ w = w' := by
  go_enter Tryd.func95, Tryd.ntmps95
  go_wp2
  all_goals (go_ret; simp [isDigitB]; try omega)

set_option maxHeartbeats 400000 in
theorem isMore_any (c : Int) (w : World) :
    Calls Tryd.prog 98 #[.int .u8 c] w fun e w' => e = .returned (.bool (isMoreB c)) ∧ w = w' := by
  go_enter Tryd.func98, Tryd.ntmps98
  go_wp2_with (first | (go_at_call 93; refine (isLetter_any _ _).mono ?_; rintro e w' ⟨rfl, rfl⟩) | (go_at_call 95; refine (isDigit_any _ _).mono ?_; rintro e w' ⟨rfl, rfl⟩))
  all_goals (go_ret; simp_all [isMoreB])

set_option maxHeartbeats 400000 in
theorem notFeed_any (c : Int) (w : World) :
    Calls Tryd.prog 92 #[.int .u8 c] w fun e w' => e = .returned (.bool (notFeedB c)) ∧ w = w' := by
  go_enter Tryd.func92, Tryd.ntmps92
  go_wp2
  all_goals (go_ret; simp [notFeedB])

def runN (s : ByteArray) (p : Int → Bool) : Nat := runL p s.data.toList

theorem takeWhile_len_step (p : UInt8 → Bool) (l : List UInt8) (k : Nat) (h : k ≤ (l.takeWhile p).length) (hk : k < l.length) :
    (p l[k] = true → k + 1 ≤ (l.takeWhile p).length) ∧ (p l[k] = false → (l.takeWhile p).length = k) := by
  induction l generalizing k with
  | nil => simp at hk
  | cons a l ih =>
    by_cases ha : p a
    · simp only [List.takeWhile_cons, ha, if_true, List.length_cons] at h ⊢
      cases k with
      | zero => simp [ha]
      | succ k =>
        have := ih k (by omega) (by simpa using hk)
        simp only [List.getElem_cons_succ]
        constructor
        · intro h1; have := this.1 h1; omega
        · intro h1; have := this.2 h1; omega
    · simp only [List.takeWhile_cons, ha] at h ⊢
      have : k = 0 := by simpa using h
      subst this
      simp [ha]

theorem run_step (s : ByteArray) (p : Int → Bool) (k : Nat) (hk : k ≤ runN s p) (hlt : k < s.size) :
    (p (s[k].toNat : Int) = true → k + 1 ≤ runN s p) ∧ (p (s[k].toNat : Int) = false → runN s p = k) := by
  have h := takeWhile_len_step (fun b => p b.toNat) s.data.toList k hk (by simpa using hlt)
  have e : s.data.toList[k]'(by simpa using hlt) = s[k] := rfl
  rw [e] at h
  exact h
theorem runN_le (s : ByteArray) (p : Int → Bool) : runN s p ≤ s.size := by
  have := runL_le p s.data.toList
  rw [list_size] at this
  exact this

set_option maxHeartbeats 400000 in
theorem run_any (s : ByteArray) (g : Nat) (p : Int → Bool) (w : World) (hs : s.size ≤ maxLen)
    (hc : ∀ args w, (callFunc g args).run Tryd.prog w = .ok (.enter g args) w)
    (hg : ∀ c w, Calls Tryd.prog g #[.int .u8 c] w fun e w' => e = .returned (.bool (p c)) ∧ w = w') :
    Calls Tryd.prog 91 #[.string s, .func (.func g) #[] #[]] w fun e w' => e = .returned (.int .i64 (runN s p)) ∧ w = w' := by
  unfold maxLen at hs
  have HG := Lib.hid hg; clear hg
  go_enter Tryd.func91, Tryd.ntmps91
  go_wp2
  go_loop [5] (fun i => ∃ k : Nat, k ≤ runN s p ∧ i = .int .i64 k) (fun i => s.size - (intOf i).toNat)
  case atStart => exact ⟨0, Nat.zero_le _, rfl⟩
  case round =>
    obtain ⟨k, hk, rfl⟩ := hrel
    go_wp2_with (refine (HG.out _ _).mono ?_; rintro e w' ⟨rfl, rfl⟩)
    · have hlt : k < s.size := by assumption
      exact ⟨⟨k + 1, (run_step s p k hk hlt).1 (by assumption), rfl⟩, by simp [intOf]; omega⟩
    · have hlt : k < s.size := by assumption
      go_ret
      exact ⟨ri (by rw [(run_step s p k hk hlt).2 (by assumption)]), rfl⟩
    · have hge : ¬ k < s.size := by assumption
      have := runN_le s p
      go_ret
      exact ⟨ri (by omega), rfl⟩

theorem runMore_any (s : ByteArray) (w : World) (hs : s.size ≤ maxLen) :
    Calls Tryd.prog 91 #[.string s, .func (.func 98) #[] #[]] w fun e w' => e = .returned (.int .i64 (runN s isMoreB)) ∧ w = w' :=
  run_any s _ _ w hs (fun _ _ => by kernel_rfl) isMore_any
theorem runDigit_any (s : ByteArray) (w : World) (hs : s.size ≤ maxLen) :
    Calls Tryd.prog 91 #[.string s, .func (.func 95) #[] #[]] w fun e w' => e = .returned (.int .i64 (runN s isDigitB)) ∧ w = w' :=
  run_any s _ _ w hs (fun _ _ => by kernel_rfl) isDigit_any
theorem runNote_any (s : ByteArray) (w : World) (hs : s.size ≤ maxLen) :
    Calls Tryd.prog 91 #[.string s, .func (.func 92) #[] #[]] w fun e w' => e = .returned (.int .i64 (runN s notFeedB)) ∧ w = w' :=
  run_any s _ _ w hs (fun _ _ => by kernel_rfl) notFeed_any

theorem List.getElem_zero_cons_tail {α : Type} : ∀ {l : List α} (h : 0 < l.length), l[0] :: l.tail = l
  | _ :: _, _ => rfl
theorem data_cons (s : ByteArray) (h : 0 < s.size) : s.data.toList = s[0] :: s.data.toList.tail := by
  have hl : 0 < s.data.toList.length := by rw [list_size]; exact h
  have e : s.data.toList[0] = s[0] := rfl
  rw [← e]
  exact (List.getElem_zero_cons_tail hl).symm
theorem gapL_at (s : ByteArray) (h : 0 < s.size) : gapL s.data.toList = if (s[0].toNat : Int) = 32 ∨ (s[0].toNat : Int) = 10 then 1 else if (s[0].toNat : Int) = 35 then runN s notFeedB else 0 := by
  have e := data_cons s h
  unfold runN
  generalize s.data.toList = l at *
  generalize s[0] = c at *
  rw [e]
  simp only [gapL]
  rw [← e]
  simp only [show ((c.toNat : Int) = 32) = (c.toNat = 32) by simp; omega, show ((c.toNat : Int) = 10) = (c.toNat = 10) by simp; omega, show ((c.toNat : Int) = 35) = (c.toNat = 35) by simp; omega]
set_option maxHeartbeats 400000 in
theorem gap_any (s : ByteArray) (h : 0 < s.size) (w : World) (hs : s.size ≤ maxLen) :
    Calls Tryd.prog 89 #[.string s] w fun e w' => e = .returned (.int .i64 (gapL s.data.toList)) ∧ w = w' := by
  rw [gapL_at s h]
  go_enter Tryd.func89, Tryd.ntmps89
  go_wp2_with (refine (runNote_any _ _ hs).mono ?_; rintro e w' ⟨rfl, rfl⟩)
  all_goals (go_ret; refine ⟨?_, rfl⟩; simp_all)

/-- what the variables of the library hold -/
def GOK (w : World) : Prop := Lib.TabIs Tryd.prog w "strings.asciiSpace" .u8 Lib.asciiSpaceTab
theorem GOK.below {w w' : World} (h : GOK w) (hb : Below w.heap.size w w') : GOK w' := Joins.tab_stays (g := 1) (by kernel_rfl) h hb (Nat.le_refl _)

def wordsT : List UInt8 := [114, 101, 108, 111, 97, 100, 32, 116, 97, 115, 107, 32, 112, 101, 114, 105, 111, 100, 32, 100, 101, 97, 100, 108, 105, 110, 101, 32, 102, 105, 120, 101, 100, 32, 102, 108, 111, 97, 116, 32, 116, 104, 114, 101, 115, 104, 32, 114, 101, 103, 105, 111, 110, 115, 32, 101, 99, 98, 32, 117, 99, 98]
theorem fields_words : Lib.fields wordsT = wordsL := by decide +kernel
def wordsC : Array Value := (wordsL.map fun l => Value.string ⟨l.toArray⟩).toArray
theorem words_any (w : World) (hG : GOK w) :
    Calls Tryd.prog 100 #[] w fun e w' => e = .returned (.slice (some ⟨w.heap.size, 0, none⟩) 10 10) ∧ w.alloc (.cells wordsC 9) = w' := by
  have c := Tryd.strings_Fields ⟨wordsT.toArray⟩ w (by decide) (by intro j b hb; have : ∀ b ∈ wordsT, b.toNat < 128 := by decide +kernel
                                                                   exact this b (List.mem_of_getElem? hb)) hG
  rw [show (⟨wordsT.toArray⟩ : ByteArray).data.toList = wordsT from rfl, fields_words] at c
  have C := Lib.hid c; clear c
  go_enter Tryd.func100, Tryd.ntmps100
  go_wp2_with (refine C.out.mono ?_; rintro e w' ⟨rfl, rfl⟩)
  go_ret
  exact ⟨rfl, rfl⟩

/-- the words' cells lie there -/
def WordsAt (w : World) (g : Nat) : Prop := ∀ o, o < 10 → w.cell? ⟨g, o, none⟩ = wordsC[o]?
theorem containsS_words (x : ByteArray) : Lib.containsS ((wordsL.map str).take 10) x = wordsL.contains x.data.toList := by
  rw [Bool.eq_iff_iff, Lib.containsS_iff, List.contains_iff_mem, List.take_of_length_le (by simp [wordsL])]
  constructor
  · intro h
    obtain ⟨l, hl, e⟩ := List.mem_map.1 h
    rw [← e]; exact hl
  · intro h; exact List.mem_map.2 ⟨_, h, rfl⟩
theorem contains_any (w : World) (g : Nat) (x : ByteArray) (h : WordsAt w g) :
    Calls Tryd.prog 99 #[.slice (some ⟨g, 0, none⟩) 10 10, .string x] w fun e w' => e = .returned (.bool (wordsL.contains x.data.toList)) ∧ w = w' := by
  refine (Tryd.slices_Contains_string g 0 10 10 (wordsL.map str) x w (by simp [wordsL]) (by omega) ?_).mono ?_
  · intro j hj
    rw [Nat.zero_add, h j (by simpa [wordsL] using hj)]
    have hj' : j < wordsL.length := by simpa using hj
    simp only [wordsC, List.getElem?_toArray, List.getElem?_map, List.getD, List.getElem?_eq_getElem hj', Option.map_some, Option.getD_some, str]
  · rintro e w' ⟨rfl, rfl⟩
    rw [containsS_words]
    exact ⟨rfl, rfl⟩

def nameKind (s : ByteArray) : Int := if wordsL.contains (s.extract 0 (runN s isMoreB)).data.toList then 3 else 1
def nameV (s : ByteArray) : Value := .tuple #[.agg #[.int .i64 (nameKind s), .string (s.extract 0 (runN s isMoreB)), .int .i64 0, .int .i64 0], .int .i64 (runN s isMoreB), .bool (decide ((runN s isMoreB : Int) ≤ 12))]
set_option maxHeartbeats 800000 in
theorem name_any (s : ByteArray) (w : World) (hs : s.size ≤ maxLen) (hG : GOK w) :
    Calls Tryd.prog 94 #[.string s] w fun e w' => e = .returned (nameV s) ∧ Below w.heap.size w w' := by
  have hn := runN_le s isMoreB
  unfold maxLen at hs
  go_enter Tryd.func94, Tryd.ntmps94
  go_wp2_with (refine (runMore_any _ _ (by unfold maxLen; omega)).mono ?_; rintro e w' ⟨rfl, rfl⟩)
  go_region_with (first
    | (go_at_call 100; refine (words_any _ ?_).mono ?_; exact hG.below (by repeat (first | exact Below.refl _ _ | assumption | refine Below.drew ?_ | refine Below.alloc ?_ (by first | (simp; done) | (simp; omega) | omega) _ | refine Below.setCell ?_ (by first | (simp; done) | (simp; omega) | omega) _)); rintro e w' ⟨rfl, rfl⟩)
    | (go_at_call 99; refine (contains_any _ _ _ ?_).mono ?_; intro o ho; exact World.cell?_alloc_at _ _ _ _ (by simp); rintro e w' ⟨rfl, rfl⟩))
  all_goals go_wp2
  all_goals exact bodyPost_ret (v := nameV s) (by simp [nameV, nameKind, results, Tryd.results94, go_sem, *]) rfl ⟨rfl, (by repeat (first | exact Below.refl _ _ | assumption | refine Below.drew ?_ | refine Below.alloc ?_ (by first | (simp; done) | (simp; omega) | omega) _ | refine Below.setCell ?_ (by first | (simp; done) | (simp; omega) | omega) _))⟩

theorem tail_val (l : List UInt8) (c : UInt8) : valL (l ++ [c]) = valL l * 10 + ((c.toNat : Int) - 48) := by simp [valL]
theorem take_snoc {α : Type} (l : List α) (k : Nat) (h : k < l.length) : l.take (k + 1) = l.take k ++ [l[k]] := by
  rw [List.take_succ_eq_append_getElem h]
theorem val_bound (n : Nat) : ∀ (l : List UInt8), l.length = n → (∀ c ∈ l, isDigitB c.toNat = true) → 0 ≤ valL l ∧ valL l + 1 ≤ 10 ^ n := by
  induction n with
  | zero => intro l hl _; obtain rfl := List.length_eq_zero_iff.1 hl; simp [valL]
  | succ n ih =>
    intro l hl h
    have e := List.dropLast_concat_getLast (l := l) (by intro e; simp [e] at hl)
    rw [← e] at h ⊢
    generalize l.getLast _ = c at h ⊢
    have h1 := ih l.dropLast (by simp; omega) fun x hx => h x (by simp [hx])
    have h2 := h c (by simp)
    simp [isDigitB] at h2
    rw [tail_val, Int.pow_succ]
    omega

theorem run_digits (s : ByteArray) (k : Nat) (hk : k ≤ runN s isDigitB) : (∀ c ∈ s.data.toList.take k, isDigitB c.toNat = true) := by
  intro c hc
  have h1 : c ∈ s.data.toList.takeWhile (fun b => isDigitB b.toNat) := by
    have e : s.data.toList.take k = (s.data.toList.takeWhile (fun b => isDigitB b.toNat)).take k := by
      have hp := List.takeWhile_prefix (fun b : UInt8 => isDigitB b.toNat) (l := s.data.toList)
      obtain ⟨r, hr⟩ := hp
      conv => lhs; rw [← hr]
      rw [List.take_append_of_le_length hk]
    rw [e] at hc
    exact List.mem_of_mem_take hc
  exact List.all_takeWhile (p := fun b : UInt8 => isDigitB b.toNat) (l := s.data.toList) |> List.all_eq_true.1 |> fun h => h c h1
theorem digit_at (s : ByteArray) (k : Nat) (hk : k < runN s isDigitB) : 48 ≤ ((s.data.toList.getD k 0).toNat : Int) ∧ ((s.data.toList.getD k 0).toNat : Int) ≤ 57 := by
  have hl : k < s.data.toList.length := Nat.lt_of_lt_of_le hk (runL_le _ _)
  have h := run_digits s (k + 1) hk (s.data.toList.getD k 0) (by rw [take_snoc _ _ hl, getD_at hl]; simp)
  simp [isDigitB] at h ⊢
  omega
theorem val_step (s : ByteArray) (k : Nat) (hk : k < runN s isDigitB) : valL (s.data.toList.take (k + 1)) = valL (s.data.toList.take k) * 10 + (((s.data.toList.getD k 0).toNat : Int) - 48) := by
  have hl : k < s.data.toList.length := Nat.lt_of_lt_of_le hk (runL_le _ _)
  rw [take_snoc _ _ hl, tail_val, getD_at hl]
theorem val_nine (s : ByteArray) (k : Nat) (hk : k ≤ runN s isDigitB) (h9 : k ≤ 9) : 0 ≤ valL (s.data.toList.take k) ∧ valL (s.data.toList.take k) ≤ 999999999 := by
  have h := val_bound k (s.data.toList.take k) (by rw [List.length_take]; have := runL_le isDigitB s.data.toList; unfold runN at hk; omega) (run_digits s k hk)
  have : (10 : Int) ^ k ≤ 10 ^ 9 := by
    have := Nat.pow_le_pow_right (show 0 < 10 by omega) h9
    exact_mod_cast this
  omega

def numberOk (s : ByteArray) (h : 0 < s.size) : Prop := runN s isDigitB ≤ 9 ∧ (runN s isDigitB ≤ 1 ∨ (s[0].toNat : Int) ≠ 48)
set_option maxHeartbeats 800000 in
theorem number_no (s : ByteArray) (h : 0 < s.size) (w : World) (hs : s.size ≤ maxLen) (hno : ¬ numberOk s h) :
    Calls Tryd.prog 96 #[.string s] w fun e w' => e = .returned (.tuple #[.agg #[.int .i64 2, .string ⟨#[]⟩, .int .i64 0, .int .i64 0], .int .i64 (runN s isDigitB), .bool false]) ∧ Below w.heap.size w w' := by
  have hn := runN_le s isDigitB
  unfold maxLen at hs
  have H := Lib.hid hno; clear hno
  have kb := fun W => Lib.run_convert_string_bytes (P := Tryd.prog) W 9 56 5 (s.extract 0 (runN s isDigitB)) Tryd.underlying9 Tryd.underlying56 Tryd.underlying5
  go_enter Tryd.func96, Tryd.ntmps96
  go_wp2_with (refine (runDigit_any _ _ (by unfold maxLen; omega)).mono ?_; rintro e w' ⟨rfl, rfl⟩)
  all_goals first
    | (exfalso; apply H.out; unfold numberOk; simp_all <;> omega)
    | exact bodyPost_ret (v := .tuple #[.agg #[.int .i64 2, .string ⟨#[]⟩, .int .i64 0, .int .i64 0], .int .i64 (runN s isDigitB), .bool false]) (by simp [results, Tryd.results96, go_sem, *]) rfl ⟨rfl, (by repeat (first | exact Below.refl _ _ | assumption | refine Below.drew ?_ | refine Below.alloc ?_ (by first | (simp; done) | (simp; omega) | omega) _ | refine Below.setCell ?_ (by first | (simp; done) | (simp; omega) | omega) _))⟩

set_option maxHeartbeats 1600000 in
theorem number_ok (s : ByteArray) (h : 0 < s.size) (w : World) (hs : s.size ≤ maxLen) (hok : numberOk s h) :
    Calls Tryd.prog 96 #[.string s] w fun e w' => e = .returned (.tuple #[.agg #[.int .i64 2, .string ⟨#[]⟩, .int .i64 (valL (s.data.toList.take (runN s isDigitB))), .int .i64 0], .int .i64 (runN s isDigitB), .bool true]) ∧ Below w.heap.size w w' := by
  have hn := runN_le s isDigitB
  have h9 := hok.1
  unfold maxLen at hs
  have H := Lib.hid hok; clear hok
  have kb := fun W => Lib.run_convert_string_bytes (P := Tryd.prog) W 9 56 5 (s.extract 0 (runN s isDigitB)) Tryd.underlying9 Tryd.underlying56 Tryd.underlying5
  go_enter Tryd.func96, Tryd.ntmps96
  go_wp2_with (refine (runDigit_any _ _ (by unfold maxLen; omega)).mono ?_; rintro e w' ⟨rfl, rfl⟩)
  all_goals try (exfalso; have := H.out; unfold numberOk at this; simp_all <;> omega)
  all_goals
    generalize hW : Lib.bytesWorld _ _ _ = W
    have HW := Lib.hid hW; clear hW
    go_loopw [30] (fun i wr => ∃ k : Nat, k ≤ runN s isDigitB ∧ i = .int .i64 k ∧ Below w.heap.size w wr ∧ wr.heap.size = w.heap.size + 3 ∧ Blk wr w.heap.size #[.int .i64 0, .string ⟨#[]⟩, .int .i64 0, .int .i64 0] 91 ∧ Blk wr (w.heap.size + 1) #[.int .i64 2, .string ⟨#[]⟩, .int .i64 (valL (s.data.toList.take k)), .int .i64 0] 91 ∧ ∀ j, j < runN s isDigitB → wr.cell? ⟨w.heap.size + 2, j, none⟩ = some (.int .u8 (s.data.toList.getD j 0).toNat)) (fun i _ => runN s isDigitB - (intOf i).toNat)
    case atStart =>
      obtain rfl := HW.out
      exact ⟨0, Nat.zero_le _, rfl, Joins.below_bytesWorld _ _ _ _ (by simp; omega) |> Below.trans (by repeat (first | exact Below.refl _ _ | assumption | refine Below.drew ?_ | refine Below.alloc ?_ (by first | (simp; done) | (simp; omega) | omega) _ | refine Below.setCell ?_ (by first | (simp; done) | (simp; omega) | omega) _)), by rw [Lib.bytesWorld_size]; simp, ((Blk.new _ _ _).alloc _).bytes _ _, (Blk.new_at _ _ _ _ (by simp)).bytes _ _, fun j hj => by
        have hsz : (s.extract 0 (runN s isDigitB)).size = runN s isDigitB := by rw [← list_size, extract_from, List.length_take, list_size]; omega
        have := Lib.bytesWorld_cell ((w.alloc (.cells #[.int .i64 0, .string ⟨#[]⟩, .int .i64 0, .int .i64 0] 91)).alloc (.cells #[.int .i64 2, .string ⟨#[]⟩, .int .i64 0, .int .i64 0] 91)) 5 (s.extract 0 (runN s isDigitB)) j (by omega)
        rw [size_alloc, size_alloc, extract_from, List.getD_eq_getElem?_getD, List.getElem?_take_of_lt hj, ← List.getD_eq_getElem?_getD] at this
        exact this⟩
    case round =>
      obtain ⟨k, hk, rfl, hb, hz, hb0, hb1, hc⟩ := hrel
      have c0 := hb0.cell; have f0 := hb0.free; have c1 := hb1.cell; have f1 := hb1.free
      have hck : k < runN s isDigitB → wr.cell? ⟨w.heap.size + 2, k, none⟩ = some (.int .u8 (s.data.toList.getD k 0).toNat) := hc k
      have ⟨hv0, hv1⟩ := val_nine s k hk (by omega)
      have HZ := Lib.hid hz; clear hz
      have HC := Lib.hid hc; clear hc
      by_cases hlt : k < runN s isDigitB
      · have ⟨hd0, hd1⟩ := digit_at s k hlt
        have hcell := hck hlt
        have HS := Lib.hid (val_step s k hlt)
        clear hck
        generalize ((s.data.toList.getD k 0).toNat : Int) = c at hcell hd0 hd1 HS
        go_wp2
        exact ⟨⟨k + 1, hlt, rfl, hb.setCell (by simp) _, by rw [size_setCell]; exact HZ.out, hb0.far (by simp) _, by rw [HS.out]; exact hb1.set 2 _, fun j hj => by rw [cell_far (by simp)]; exact HC.out j hj⟩, by simp [intOf]; omega⟩
      · go_wp2
        have e : runN s isDigitB = k := by omega
        rw [e]
        exact bodyPost_ret (v := .tuple #[.agg #[.int .i64 2, .string ⟨#[]⟩, .int .i64 (valL (s.data.toList.take k)), .int .i64 0], .int .i64 k, .bool true]) (by simp [results, Tryd.results96, go_sem, *]) rfl ⟨rfl, (((hb.setCell (by simp) _).setCell (by simp) _).setCell (by simp) _).setCell (by simp) _⟩
end Go.Proofs.YtniejidekflmiaaDoor
