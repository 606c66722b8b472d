/- How many bits are set: the way of the library, in plain Lean. -/
import Derived.WalkKit
namespace Go.Proofs.YtknfdjnbndfboaaDoor

/-- how many of the first n bits are set -/
def popN (n x : Nat) : Nat := (List.range n).countP x.testBit
theorem popN_byte (n x : Nat) : popN (8 + n) x = popN 8 (x % 256) + popN n (x / 256) := by
  unfold popN
  rw [List.range_add, List.countP_append, List.countP_map]
  congr 1
  · refine List.countP_congr fun j hj => ?_
    have : j < 8 := List.mem_range.1 hj
    rw [show (256 : Nat) = 2 ^ 8 from rfl, Nat.testBit_mod_two_pow]
    simp [this]
  · refine List.countP_congr fun j _ => ?_
    show x.testBit (8 + j) = true ↔ _
    rw [← Nat.testBit_shiftRight, Nat.shiftRight_eq_div_pow]
theorem pop8_le : ∀ b : Fin 256, popN 8 b.val ≤ 8 := by decide +kernel

theorem and_digit {q r m c : Nat} (hr : r < 256) (hc : c < 256) : (256 * q + r) &&& (256 * m + c) = 256 * (q &&& m) + (r &&& c) := by
  have h : r &&& c < 2 ^ 8 := Nat.lt_of_le_of_lt Nat.and_le_left hr
  apply Nat.eq_of_testBit_eq
  intro j
  rw [Nat.testBit_and, show (256 : Nat) = 2 ^ 8 from rfl, Nat.testBit_two_pow_mul_add _ hr, Nat.testBit_two_pow_mul_add _ hc, Nat.testBit_two_pow_mul_add _ h]
  split <;> simp [Nat.testBit_and]
def rep (c : Nat) : Nat → Nat
  | 0 => 0
  | k + 1 => 256 * rep c k + c
def mapD (f : Nat → Nat) : Nat → Nat → Nat
  | 0, _ => 0
  | k + 1, x => 256 * mapD f k (x / 256) + f (x % 256)
theorem mapD_congr {f g : Nat → Nat} (h : ∀ b, b < 256 → f b = g b) : ∀ k x, mapD f k x = mapD g k x
  | 0, _ => rfl
  | k + 1, x => by
    unfold mapD
    rw [mapD_congr h k, h _ (Nat.mod_lt _ (by omega))]
theorem mapD_comp {f g : Nat → Nat} (hf : ∀ b, b < 256 → f b < 256) : ∀ k x, mapD g k (mapD f k x) = mapD (fun b => g (f b)) k x
  | 0, _ => rfl
  | k + 1, x => by
    have hb := hf (x % 256) (Nat.mod_lt _ (by omega))
    show 256 * mapD g k (mapD f (k + 1) x / 256) + g (mapD f (k + 1) x % 256) = _
    rw [show mapD f (k + 1) x = 256 * mapD f k (x / 256) + f (x % 256) from rfl, show (256 * mapD f k (x / 256) + f (x % 256)) / 256 = mapD f k (x / 256) by omega,
      show (256 * mapD f k (x / 256) + f (x % 256)) % 256 = f (x % 256) by omega, mapD_comp hf k]
    rfl
def t1 (b : Nat) : Nat := (b / 2 &&& 85) + (b &&& 85)
def t2 (b : Nat) : Nat := (b / 4 &&& 51) + (b &&& 51)
def t3 (b : Nat) : Nat := (b / 16 + b) &&& 15
theorem t1_dec : ∀ e : Fin 2, ∀ r : Fin 256, (e.val * 128 + r.val / 2) &&& 85 = (r.val / 2 &&& 85) := by decide +kernel
theorem t2_dec : ∀ e : Fin 4, ∀ r : Fin 256, (e.val * 64 + r.val / 4) &&& 51 = (r.val / 4 &&& 51) := by decide +kernel
theorem t3_dec : ∀ e : Fin 5, ∀ r : Fin 69, (e.val * 16 + r.val / 16 + r.val) &&& 15 = ((r.val / 16 + r.val) &&& 15) ∧ e.val * 16 + r.val / 16 + r.val < 256 := by decide +kernel
theorem t_pop : ∀ b : Fin 256, t3 (t2 (t1 b.val)) = popN 8 b.val ∧ t2 (t1 b.val) < 69 ∧ t2 (t1 b.val) % 16 < 5 ∧ t1 b.val < 256 := by decide +kernel
theorem st1 : ∀ k x, x < 256 ^ k → (x / 2 &&& rep 85 k) + (x &&& rep 85 k) = mapD t1 k x
  | 0, x, h => by simp [rep, mapD]
  | k + 1, x, h => by
    have hr : x % 256 < 256 := Nat.mod_lt _ (by omega)
    have hq : x / 256 < 256 ^ k := by rw [Nat.div_lt_iff_lt_mul (by omega)]; rw [Nat.pow_succ] at h; exact h
    have ih := st1 k (x / 256) hq
    show (x / 2 &&& (256 * rep 85 k + 85)) + (x &&& (256 * rep 85 k + 85)) = 256 * mapD t1 k (x / 256) + t1 (x % 256)
    rw [← ih]
    have e1 : x / 2 = 256 * (x / 256 / 2) + (x / 256 % 2 * 128 + x % 256 / 2) := by omega
    have e2 : x = 256 * (x / 256) + x % 256 := by omega
    have d := t1_dec ⟨x / 256 % 2, Nat.mod_lt _ (by omega)⟩ ⟨x % 256, hr⟩
    dsimp only at d
    have f1 : x / 2 &&& (256 * rep 85 k + 85) = 256 * (x / 256 / 2 &&& rep 85 k) + (x % 256 / 2 &&& 85) := by
      conv => lhs; rw [e1]
      rw [and_digit (by omega) (by omega), d]
    have f2 : x &&& (256 * rep 85 k + 85) = 256 * (x / 256 &&& rep 85 k) + (x % 256 &&& 85) := by
      conv => lhs; rw [e2]
      rw [and_digit (by omega) (by omega)]
    rw [f1, f2]
    unfold t1
    omega
theorem st2 : ∀ k x, x < 256 ^ k → (x / 4 &&& rep 51 k) + (x &&& rep 51 k) = mapD t2 k x
  | 0, x, h => by simp [rep, mapD]
  | k + 1, x, h => by
    have hr : x % 256 < 256 := Nat.mod_lt _ (by omega)
    have hq : x / 256 < 256 ^ k := by rw [Nat.div_lt_iff_lt_mul (by omega)]; rw [Nat.pow_succ] at h; exact h
    have ih := st2 k (x / 256) hq
    show (x / 4 &&& (256 * rep 51 k + 51)) + (x &&& (256 * rep 51 k + 51)) = 256 * mapD t2 k (x / 256) + t2 (x % 256)
    rw [← ih]
    have e1 : x / 4 = 256 * (x / 256 / 4) + (x / 256 % 4 * 64 + x % 256 / 4) := by omega
    have e2 : x = 256 * (x / 256) + x % 256 := by omega
    have d := t2_dec ⟨x / 256 % 4, Nat.mod_lt _ (by omega)⟩ ⟨x % 256, hr⟩
    dsimp only at d
    have f1 : x / 4 &&& (256 * rep 51 k + 51) = 256 * (x / 256 / 4 &&& rep 51 k) + (x % 256 / 4 &&& 51) := by
      conv => lhs; rw [e1]
      rw [and_digit (by omega) (by omega), d]
    have f2 : x &&& (256 * rep 51 k + 51) = 256 * (x / 256 &&& rep 51 k) + (x % 256 &&& 51) := by
      conv => lhs; rw [e2]
      rw [and_digit (by omega) (by omega)]
    rw [f1, f2]
    unfold t2
    omega
/-- each digit is small -/
def smallD (f : Nat → Nat) : Prop := ∀ b, b < 256 → f b < 69 ∧ f b % 16 < 5
theorem mapD_low {f : Nat → Nat} (hf : smallD f) : ∀ k x, mapD f k x % 16 < 5
  | 0, x => by simp [mapD]
  | k + 1, x => by
    have := (hf (x % 256) (Nat.mod_lt _ (by omega))).2
    unfold mapD
    omega
theorem st3 {f : Nat → Nat} (hf : smallD f) : ∀ k x, (mapD f k x / 16 + mapD f k x) &&& rep 15 k = mapD (fun b => t3 (f b)) k x
  | 0, x => by simp [rep, mapD]
  | k + 1, x => by
    have ih := st3 hf k (x / 256)
    have h1 := mapD_low hf k (x / 256)
    have h2 := hf (x % 256) (Nat.mod_lt _ (by omega))
    show (mapD f (k + 1) x / 16 + mapD f (k + 1) x) &&& (256 * rep 15 k + 15) = 256 * mapD (fun b => t3 (f b)) k (x / 256) + t3 (f (x % 256))
    rw [show mapD f (k + 1) x = 256 * mapD f k (x / 256) + f (x % 256) from rfl]
    generalize mapD f k (x / 256) = q at *
    generalize f (x % 256) = r at *
    have d := t3_dec ⟨q % 16, h1⟩ ⟨r, h2.1⟩
    dsimp only at d
    have e : (256 * q + r) / 16 + (256 * q + r) = 256 * (q / 16 + q) + (q % 16 * 16 + r / 16 + r) := by omega
    rw [e, and_digit (by omega) (by omega), ih, d.1]
    rfl
theorem all_steps (k x : Nat) (h : x < 256 ^ k) : ((mapD t2 k (mapD t1 k x)) / 16 + mapD t2 k (mapD t1 k x)) &&& rep 15 k = mapD (popN 8) k x := by
  rw [mapD_comp (f := t1) (g := t2) (fun b hb => (t_pop ⟨b, hb⟩).2.2.2)]
  rw [st3 (f := fun b => t2 (t1 b)) (fun b hb => ⟨(t_pop ⟨b, hb⟩).2.1, (t_pop ⟨b, hb⟩).2.2.1⟩)]
  exact mapD_congr (fun b hb => (t_pop ⟨b, hb⟩).1) k x
theorem div1 {a b : Nat} (h : a < 256) : (a + 256 * b) / 256 = b := by omega
theorem div2 {a b c : Nat} (h : a < 256) (h' : b < 256) : (a + 256 * (b + 256 * c)) / 65536 = c := by omega
theorem div4 {a b c d e : Nat} (h : a < 256) (h' : b < 256) (h2 : c < 256) (h3 : d < 256) : (a + 256 * (b + 256 * (c + 256 * (d + 256 * e)))) / 4294967296 = e := by omega
theorem mod128 {a b : Nat} (h : a < 128) : (a + 256 * b) % 128 = a := by omega
theorem dadd (a b u v : Nat) : a + 256 * u + (b + 256 * v) = (a + b) + 256 * (u + v) := by omega
theorem dadd0 (a b u : Nat) : a + 256 * u + b = (a + b) + 256 * u := by omega
theorem dle {a b A B : Nat} (h : a ≤ A) (k : b ≤ B) : a + 256 * b ≤ A + 256 * B := by omega
theorem fold_bytes {p0 p1 p2 p3 p4 p5 p6 p7 : Nat} (h0 : p0 ≤ 8) (h1 : p1 ≤ 8) (h2 : p2 ≤ 8) (h3 : p3 ≤ 8) (h4 : p4 ≤ 8) (h5 : p5 ≤ 8) (h6 : p6 ≤ 8) (h7 : p7 ≤ 8) {y z1 z2 z3 : Nat}
    (hy : y = p0 + 256 * (p1 + 256 * (p2 + 256 * (p3 + 256 * (p4 + 256 * (p5 + 256 * (p6 + 256 * p7))))))) (e1 : z1 = y + y / 256) (e2 : z2 = z1 + z1 / 65536) (e3 : z3 = z2 + z2 / 4294967296) :
    z3 % 128 = p0 + p1 + p2 + p3 + p4 + p5 + p6 + p7 ∧ y < 2305843009213693952 ∧ z1 < 4611686018427387904 ∧ z2 < 9223372036854775808 ∧ z3 < 18446744073709551616 := by
  revert hy e1 e2 e3
  have a0 : p0 + p1 ≤ 16 := by omega
  have a1 : p1 + p2 ≤ 16 := by omega
  have a2 : p2 + p3 ≤ 16 := by omega
  have a3 : p3 + p4 ≤ 16 := by omega
  have a4 : p4 + p5 ≤ 16 := by omega
  have a5 : p5 + p6 ≤ 16 := by omega
  have a6 : p6 + p7 ≤ 16 := by omega
  have b0 : p0 + p1 + (p2 + p3) ≤ 32 := by omega
  have b1 : p1 + p2 + (p3 + p4) ≤ 32 := by omega
  have b2 : p2 + p3 + (p4 + p5) ≤ 32 := by omega
  have b3 : p3 + p4 + (p5 + p6) ≤ 32 := by omega
  have b4 : p4 + p5 + (p6 + p7) ≤ 32 := by omega
  have b5 : p5 + p6 + p7 ≤ 32 := by omega
  have b6 : p6 + p7 ≤ 32 := by omega
  have c0 : p0 + p1 + (p2 + p3) + (p4 + p5 + (p6 + p7)) ≤ 64 := by omega
  have c1 : p1 + p2 + (p3 + p4) + (p5 + p6 + p7) ≤ 64 := by omega
  have c2 : p2 + p3 + (p4 + p5) + (p6 + p7) ≤ 64 := by omega
  have c3 : p3 + p4 + (p5 + p6) + p7 ≤ 64 := by omega
  have c4 : p4 + p5 + (p6 + p7) ≤ 64 := by omega
  have c5 : p5 + p6 + p7 ≤ 64 := by omega
  have c6 : p6 + p7 ≤ 64 := by omega
  have tot : p0 + p1 + (p2 + p3) + (p4 + p5 + (p6 + p7)) = p0 + p1 + p2 + p3 + p4 + p5 + p6 + p7 := by omega
  intro hy e1 e2 e3
  have f1 : z1 = (p0 + p1) + 256 * ((p1 + p2) + 256 * ((p2 + p3) + 256 * ((p3 + p4) + 256 * ((p4 + p5) + 256 * ((p5 + p6) + 256 * ((p6 + p7) + 256 * p7)))))) := by
    rw [e1, hy, div1 (Nat.lt_of_le_of_lt h0 (by decide)), dadd, dadd, dadd, dadd, dadd, dadd, dadd0]
  have f2 : z2 = (p0 + p1 + (p2 + p3)) + 256 * ((p1 + p2 + (p3 + p4)) + 256 * ((p2 + p3 + (p4 + p5)) + 256 * ((p3 + p4 + (p5 + p6)) + 256 * ((p4 + p5 + (p6 + p7)) + 256 * ((p5 + p6 + p7) + 256 * ((p6 + p7) + 256 * p7)))))) := by
    rw [e2, f1, div2 (Nat.lt_of_le_of_lt a0 (by decide)) (Nat.lt_of_le_of_lt a1 (by decide)), dadd, dadd, dadd, dadd, dadd, dadd0]
  have f3 : z3 = (p0 + p1 + (p2 + p3) + (p4 + p5 + (p6 + p7))) + 256 * ((p1 + p2 + (p3 + p4) + (p5 + p6 + p7)) + 256 * ((p2 + p3 + (p4 + p5) + (p6 + p7)) + 256 * ((p3 + p4 + (p5 + p6) + p7) + 256 * ((p4 + p5 + (p6 + p7)) + 256 * ((p5 + p6 + p7) + 256 * ((p6 + p7) + 256 * p7)))))) := by
    rw [e3, f2, div4 (Nat.lt_of_le_of_lt b0 (by decide)) (Nat.lt_of_le_of_lt b1 (by decide)) (Nat.lt_of_le_of_lt b2 (by decide)) (Nat.lt_of_le_of_lt b3 (by decide)), dadd, dadd, dadd, dadd0]
  clear e1 e2 e3
  refine ⟨?_, ?_, ?_, ?_, ?_⟩
  · rw [f3, mod128 (Nat.lt_of_le_of_lt c0 (by decide))]
    exact tot
  · rw [hy]
    exact Nat.lt_of_le_of_lt (dle h0 (dle h1 (dle h2 (dle h3 (dle h4 (dle h5 (dle h6 h7))))))) (by decide)
  · rw [f1]
    exact Nat.lt_of_le_of_lt (dle a0 (dle a1 (dle a2 (dle a3 (dle a4 (dle a5 (dle a6 h7))))))) (by decide)
  · rw [f2]
    exact Nat.lt_of_le_of_lt (dle b0 (dle b1 (dle b2 (dle b3 (dle b4 (dle b5 (dle b6 h7))))))) (by decide)
  · rw [f3]
    exact Nat.lt_of_le_of_lt (dle c0 (dle c1 (dle c2 (dle c3 (dle c4 (dle c5 (dle c6 h7))))))) (by decide)
theorem popN_last (z : Nat) : popN 8 z = popN 8 (z % 256) := by
  have h := popN_byte 0 z
  have h0 : popN 0 (z / 256) = 0 := rfl
  rw [h0] at h
  exact h
/-- the whole way: from the third step's number on -/
theorem ones_end (x : Nat) {y z1 z2 z3 : Nat} (hy : y = mapD (popN 8) 8 x) (e1 : z1 = y + y / 256) (e2 : z2 = z1 + z1 / 65536) (e3 : z3 = z2 + z2 / 4294967296) :
    z3 % 128 = popN 64 x ∧ y < 2305843009213693952 ∧ z1 < 4611686018427387904 ∧ z2 < 9223372036854775808 ∧ z3 < 18446744073709551616 := by
  have le : ∀ b, popN 8 (b % 256) ≤ 8 := fun b => pop8_le ⟨b % 256, Nat.mod_lt _ (by omega)⟩
  have hp : popN 64 x = popN 8 (x % 256) + (popN 8 (x / 256 % 256) + (popN 8 (x / 256 / 256 % 256) + (popN 8 (x / 256 / 256 / 256 % 256) + (popN 8 (x / 256 / 256 / 256 / 256 % 256) + (popN 8 (x / 256 / 256 / 256 / 256 / 256 % 256) + (popN 8 (x / 256 / 256 / 256 / 256 / 256 / 256 % 256) + popN 8 (x / 256 / 256 / 256 / 256 / 256 / 256 / 256 % 256))))))) := by
    rw [popN_byte 56, popN_byte 48, popN_byte 40, popN_byte 32, popN_byte 24, popN_byte 16, popN_byte 8, ← popN_last (x / 256 / 256 / 256 / 256 / 256 / 256 / 256)]
  have hm : mapD (popN 8) 8 x = popN 8 (x % 256) + 256 * (popN 8 (x / 256 % 256) + 256 * (popN 8 (x / 256 / 256 % 256) + 256 * (popN 8 (x / 256 / 256 / 256 % 256) + 256 * (popN 8 (x / 256 / 256 / 256 / 256 % 256) + 256 * (popN 8 (x / 256 / 256 / 256 / 256 / 256 % 256) + 256 * (popN 8 (x / 256 / 256 / 256 / 256 / 256 / 256 % 256) + 256 * popN 8 (x / 256 / 256 / 256 / 256 / 256 / 256 / 256 % 256))))))) := by
    simp only [mapD, Nat.mul_zero, Nat.zero_add, Nat.add_comm]
  have h := fold_bytes (le _) (le _) (le _) (le _) (le _) (le _) (le _) (le _) (hy.trans hm) e1 e2 e3
  refine ⟨?_, h.2⟩
  rw [hp, h.1]
  simp only [Nat.add_assoc]
end Go.Proofs.YtknfdjnbndfboaaDoor
