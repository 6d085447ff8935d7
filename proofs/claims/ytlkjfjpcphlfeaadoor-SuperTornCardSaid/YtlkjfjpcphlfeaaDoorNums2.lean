/- What the references of num and sum reckon, and num.OfLe, as printed. -/
import Derived.Test.YtlkjfjpcphlfeaaDoorNums
import Derived.Test.YtlkjfjpcphlfeaaDoorQ4
import Derived.Test.YtlkjfjpcphlfeaaDoorQ6
import Derived.Test.YtlkjfjpcphlfeaaDoorQ8
set_option linter.unusedVariables false
set_option linter.unusedSimpArgs false
namespace Go.Proofs.YtlkjfjpcphlfeaaDoor.Base
open Go Go.RowKit Go.Proofs.YtlkjfjpcphlfeaaDoorW.PrintWords Go.Proofs.YtlkjfjpcphlfeaaDoorW.PrintLast Go.Proofs.YtlkjfjpcphlfeaaDoorW.PrintMore
open Go.Proofs.YtlkjfjpcphlfeaaDoor.Q

theorem ref_Le_l0 (x n : Nat) (hn : n ≤ 8) (hx : x < 256 ^ n) (hx2 : x < 18446744073709551616) (d : Nat) : ∀ (k i : Nat), i + d = n → d < k →
    holtref1_Le.l0 k ((x / 256 ^ i : Nat) : Int) n (ints (le i x)) i = some (str (le n x), 0) := by
  induction d with
  | zero =>
    intro k i hi hk
    obtain ⟨k, rfl⟩ : ∃ m, k = m + 1 := ⟨k - 1, by omega⟩
    simp only [holtref1_Le.l0]
    simp only [Nat.add_zero] at hi; subst hi
    rw [if_neg (by omega), Nat.div_eq_of_lt hx, if_pos (by rfl), strOf_ints]
  | succ d ih =>
    intro k i hi hk
    obtain ⟨k, rfl⟩ : ∃ m, k = m + 1 := ⟨k - 1, by omega⟩
    simp only [holtref1_Le.l0]
    have hl : (ints (le i x)).length = i := by simp [ints, le_length]
    have hq : x / 256 ^ i ≤ x := Nat.div_le_self _ _
    rw [if_pos (by omega), if_pos (by rw [hl]; omega)]
    have e1 : IntKind.u64.wrap (Int.tdiv ((x / 256 ^ i : Nat) : Int) 256) = ((x / 256 ^ (i + 1) : Nat) : Int) := by
      rw [Nat.pow_succ, ← Nat.div_div_eq_div_mul]
      generalize x / 256 ^ i = q at hq ⊢
      rw [Int.tdiv_eq_ediv_of_nonneg (by omega), u64_lt (by omega) (by omega)]
      omega
    have e2 : ints (le i x) ++ [Int.tmod ((x / 256 ^ i : Nat) : Int) 256 % 256] = ints (le (i + 1) x) := by
      have hm : Int.tmod ((x / 256 ^ i : Nat) : Int) 256 % 256 = ((x / 256 ^ i : Nat) : Int) % 256 := by
        generalize x / 256 ^ i = q
        rw [Int.tmod_eq_emod_of_nonneg (by omega)]; omega
      rw [le_snoc, ints_append, hm]
      simp only [ints, List.map_cons, List.map_nil]
      rw [byte_int]
    rw [e1, e2, w64 (x := (i : Int) + 1) (by omega) (by omega)]
    exact ih k (i + 1) (by omega) (by omega)
theorem ref_Le (x n k : Nat) (h1 : 1 ≤ n) (hn : n ≤ 8) (hx : x < 256 ^ n) (hx2 : x < 18446744073709551616) (hk : n + 2 ≤ k) : holtref1_Le.f k x n = some (str (le n x), 0) := by
  unfold holtref1_Le.f
  obtain ⟨k, rfl⟩ : ∃ m, k = m + 1 := ⟨k - 1, by omega⟩
  rw [if_neg (by omega), show decide ((n : Int) > 8) = false from decide_eq_false (by omega)]
  simp only [holtref1_Le.j0]
  rw [if_neg (by decide)]
  have := ref_Le_l0 x n hn hx hx2 n k 0 (by omega) (by omega)
  simpa [ints, le] using this
theorem ref_L8 (x : Int) (k : Nat) (h0 : 0 ≤ x) (h1 : x < 18446744073709551616) (hk : 10 ≤ k) : holtref1_L8.f k x = some (str (le 8 x.toNat)) := by
  obtain ⟨n, rfl⟩ := Int.eq_ofNat_of_zero_le h0
  unfold holtref1_L8.f
  rw [show (8 : Int) = ((8 : Nat) : Int) from rfl, ref_Le n 8 k (by decide) (by decide) (by omega) (by omega) (by omega)]; rfl

theorem ref_fnv_l0 (l : List UInt8) (hl : l.length ≤ 140737488355328) (h : Nat) (hh : h < 18446744073709551616) (d : Nat) : ∀ (k i : Nat), i + d = l.length → d < k →
    holtref2_On.l0 k (fnv h (l.take i)) (str l) i = some ((fnv h l : Nat) : Int) := by
  induction d with
  | zero =>
    intro k i hi hk
    obtain ⟨k, rfl⟩ : ∃ m, k = m + 1 := ⟨k - 1, by omega⟩
    simp only [holtref2_On.l0]
    rw [if_neg (by rw [str_size]; omega), List.take_of_length_le (by omega)]
  | succ d ih =>
    intro k i hi hk
    obtain ⟨k, rfl⟩ : ∃ m, k = m + 1 := ⟨k - 1, by omega⟩
    simp only [holtref2_On.l0]
    rw [if_pos (by rw [str_size]; omega), if_pos (by omega), bt_str l i (by omega), fnv_step _ _ (fnv_lt _ _ hh), ← fnv_take h l i (by omega), w64 (by omega) (by omega)]
    exact ih k (i + 1) (by omega) (by omega)
theorem ref_sum (l : List UInt8) (hl : l.length ≤ 140737488355328) (k : Nat) (hk : l.length < k) : holtref2_Of.f k (str l) = some ((fnv basis l : Nat) : Int) := by
  unfold holtref2_Of.f holtref2_On.f
  have := ref_fnv_l0 l hl basis (by decide) l.length k 0 (by omega) hk
  simp only [List.take_zero, fnv] at this
  rw [show (14695981039346656037 : Int) = ((basis : Nat) : Int) from rfl, show (0 : Int) = ((0 : Nat) : Int) from rfl, this]; rfl

theorem or_step (l : List UInt8) (i : Nat) (hi : i < l.length) (h8 : l.length ≤ 8) :
    Go.bits .or .u64 ((ofLe (l.take i) : Nat) : Int) (shl .u64 (IntKind.u64.wrap ((l[i].toNat : Nat) : Int)) (wrap64 (8 * (i : Int)))) = ((ofLe (l.take (i + 1)) : Nat) : Int) := by
  have hc := l[i].toNat_lt
  have hlt := ofLe_lt (l.take i)
  rw [List.length_take, Nat.min_eq_left (by omega)] at hlt
  have hp : 256 ^ i * 256 ≤ 256 ^ 8 := by rw [← Nat.pow_succ]; exact Nat.pow_le_pow_right (by decide) (by omega)
  have hb : l[i].toNat * 256 ^ i < 18446744073709551616 := by
    have : l[i].toNat * 256 ^ i ≤ 255 * 256 ^ i := Nat.mul_le_mul_right _ (by omega)
    have h8' : (256 : Nat) ^ 8 = 18446744073709551616 := by decide
    omega
  have e1 : shl .u64 (IntKind.u64.wrap ((l[i].toNat : Nat) : Int)) (wrap64 (8 * (i : Int))) = ((l[i].toNat * 256 ^ i : Nat) : Int) := by
    rw [w64 (by omega) (by omega), u64_lt (by omega) (by omega)]
    unfold shl
    rw [show (8 * (i : Int)).toNat = 8 * i from by omega, show IntKind.u64.bits = 64 from rfl, Nat.min_eq_left (by omega), pow8, ← Int.natCast_mul, u64_nat, Nat.mod_eq_of_lt hb]
  have hlt' : ofLe (l.take i) < 18446744073709551616 := by
    have h8' : (256 : Nat) ^ 8 = 18446744073709551616 := by decide
    omega
  rw [e1, u64_or_nat _ _ hlt' hb, ← pow8n i, or_add _ _ _ (by rw [pow8n]; exact hlt), pow8n, List.take_succ_eq_append_getElem hi, ofLe_snoc, List.length_take, Nat.min_eq_left (by omega), Nat.mul_comm (256 ^ i)]
theorem num_OfLe_l0 (l : List UInt8) (h8 : l.length ≤ 8) (d : Nat) : ∀ (k i : Nat), i + d = l.length → d < k →
    num_OfLe.l0 k (str l) (ofLe (l.take i) : Nat) l.length i = some (((ofLe l : Nat) : Int), 0) := by
  induction d with
  | zero =>
    intro k i hi hk
    obtain ⟨k, rfl⟩ : ∃ m, k = m + 1 := ⟨k - 1, by omega⟩
    simp only [num_OfLe.l0]
    rw [if_neg (by omega), List.take_of_length_le (by omega)]
  | succ d ih =>
    intro k i hi hk
    obtain ⟨k, rfl⟩ : ∃ m, k = m + 1 := ⟨k - 1, by omega⟩
    simp only [num_OfLe.l0]
    rw [if_pos (by omega), if_pos (by omega), if_pos (by rw [str_size]; omega), if_pos (by rw [w64 (by omega) (by omega)]; omega), bt_str l i (by omega), or_step l i (by omega) h8, w64 (x := (i : Int) + 1) (by omega) (by omega)]
    exact ih k (i + 1) (by omega) (by omega)
theorem num_OfLe_ok (l : List UInt8) (h1 : 1 ≤ l.length) (h8 : l.length ≤ 8) (k : Nat) (hk : l.length + 2 ≤ k) : num_OfLe.f k (str l) = some (((ofLe l : Nat) : Int), 0) := by
  unfold num_OfLe.f
  obtain ⟨k, rfl⟩ : ∃ m, k = m + 1 := ⟨k - 1, by omega⟩
  rw [str_size, if_neg (by omega), show decide ((l.length : Int) > 8) = false from decide_eq_false (by omega)]
  simp only [num_OfLe.j0]
  rw [if_neg (by decide), str_size]
  exact num_OfLe_l0 l h8 l.length k 0 (by omega) (by omega)
theorem num_OfLe_bad (l : List UInt8) (h : l.length < 1 ∨ 8 < l.length) (k : Nat) (hk : 1 ≤ k) : num_OfLe.f k (str l) = some (0, 100) := by
  unfold num_OfLe.f
  obtain ⟨k, rfl⟩ : ∃ m, k = m + 1 := ⟨k - 1, by omega⟩
  rw [str_size]
  by_cases h1 : (l.length : Int) < 1
  · rw [if_pos h1]; simp only [num_OfLe.j0]; rw [if_pos trivial]
  · rw [if_neg h1, show decide ((l.length : Int) > 8) = true from decide_eq_true (by omega)]; simp only [num_OfLe.j0]; rw [if_pos trivial]

theorem ofLe_rev_step (l : List UInt8) (i : Nat) (hi : i < l.length) (h8 : l.length ≤ 8) :
    IntKind.u64.wrap ((IntKind.u64.wrap (((ofLe (l.drop (l.length - i)) : Nat) : Int) * 256)) + (IntKind.u64.wrap ((l[l.length - 1 - i].toNat : Nat) : Int))) = ((ofLe (l.drop (l.length - (i + 1))) : Nat) : Int) := by
  have hc := l[l.length - 1 - i].toNat_lt
  have hlt := ofLe_lt (l.drop (l.length - (i + 1)))
  have hd : l.drop (l.length - (i + 1)) = l[l.length - 1 - i] :: l.drop (l.length - i) := by
    rw [show l.length - (i + 1) = l.length - 1 - i from by omega, List.drop_eq_getElem_cons (by omega)]
    congr 2; omega
  rw [List.length_drop] at hlt
  have hp : 256 ^ (l.length - (l.length - (i + 1))) ≤ 256 ^ 8 := Nat.pow_le_pow_right (by decide) (by omega)
  have h8' : (256 : Nat) ^ 8 = 18446744073709551616 := by decide
  rw [hd, ofLe] at hlt ⊢
  have h1 : ofLe (l.drop (l.length - i)) * 256 < 18446744073709551616 := by omega
  generalize ofLe (l.drop (l.length - i)) = q at *
  rw [u64_lt (x := ((q : Nat) : Int) * 256) (by omega) (by omega), u64_lt (x := ((l[l.length - 1 - i].toNat : Nat) : Int)) (by omega) (by omega), u64_lt (by omega) (by omega)]
  omega
theorem ref_OfBe_l0 (l : List UInt8) (h8 : l.length ≤ 8) (d : Nat) : ∀ (k i : Nat), i + d = l.length → d < k →
    holtref1_OfBe.l0 k (str l.reverse) (ofLe (l.drop (l.length - i)) : Nat) i = some (((ofLe l : Nat) : Int), 0) := by
  induction d with
  | zero =>
    intro k i hi hk
    obtain ⟨k, rfl⟩ : ∃ m, k = m + 1 := ⟨k - 1, by omega⟩
    simp only [holtref1_OfBe.l0]
    rw [if_neg (by rw [str_size, List.length_reverse]; omega), show l.length - i = 0 from by omega, List.drop_zero]
  | succ d ih =>
    intro k i hi hk
    obtain ⟨k, rfl⟩ : ∃ m, k = m + 1 := ⟨k - 1, by omega⟩
    simp only [holtref1_OfBe.l0]
    rw [if_pos (by rw [str_size, List.length_reverse]; omega), if_pos (by omega), bt_str l.reverse i (by rw [List.length_reverse]; omega), List.getElem_reverse, ofLe_rev_step l i (by omega) h8, w64 (x := (i : Int) + 1) (by omega) (by omega)]
    exact ih k (i + 1) (by omega) (by omega)
theorem ref_turned_l0 (l : List UInt8) (h8 : l.length ≤ 140737488355327) (d : Nat) : ∀ (k i : Nat), i + d = l.length → d < k →
    holtref1_turned.l0 k (str l) (ints (l.reverse.take i)) (wrap64 ((l.length : Int) - 1 - i)) = some (str l.reverse) := by
  induction d with
  | zero =>
    intro k i hi hk
    obtain ⟨k, rfl⟩ : ∃ m, k = m + 1 := ⟨k - 1, by omega⟩
    simp only [holtref1_turned.l0]
    rw [w64 (by omega) (by omega), if_neg (by omega), List.take_of_length_le (by rw [List.length_reverse]; omega), strOf_ints]
  | succ d ih =>
    intro k i hi hk
    obtain ⟨k, rfl⟩ : ∃ m, k = m + 1 := ⟨k - 1, by omega⟩
    simp only [holtref1_turned.l0]
    have hl : (ints (l.reverse.take i)).length = i := by rw [ints_length, List.length_take, List.length_reverse]; omega
    rw [w64 (by omega) (by omega), if_pos (by omega), if_pos (by omega), if_pos (by rw [str_size]; omega), if_pos (by rw [hl]; omega)]
    have hb : bt (str l) ((l.length : Int) - 1 - i) = ((l[l.length - 1 - i].toNat : Nat) : Int) := by
      rw [show ((l.length : Int) - 1 - i) = ((l.length - 1 - i : Nat) : Int) from by omega, bt_str l _ (by omega)]
    have e : ints (l.reverse.take i) ++ [bt (str l) ((l.length : Int) - 1 - i)] = ints (l.reverse.take (i + 1)) := by
      rw [List.take_succ_eq_append_getElem (by rw [List.length_reverse]; omega), ints_append, List.getElem_reverse, hb]; rfl
    rw [e]
    have := ih k (i + 1) (by omega) (by omega)
    rw [show ((l.length : Int) - 1 - ((i + 1 : Nat) : Int)) = ((l.length : Int) - 1 - i - 1) from by omega] at this
    exact this
theorem ref_turned (l : List UInt8) (h8 : l.length ≤ 140737488355327) (k : Nat) (hk : l.length < k) : holtref1_turned.f k (str l) = some (str l.reverse) := by
  unfold holtref1_turned.f
  rw [str_size]
  have := ref_turned_l0 l h8 l.length k 0 (by omega) hk
  simpa [ints] using this
theorem ref_OfLe_ok (l : List UInt8) (h1 : 1 ≤ l.length) (h8 : l.length ≤ 8) (k : Nat) (hk : l.length + 2 ≤ k) : holtref1_OfLe.f k (str l) = some (((ofLe l : Nat) : Int), 0) := by
  unfold holtref1_OfLe.f
  rw [ref_turned l (by omega) k (by omega)]
  simp only [Option.bind_some]
  unfold holtref1_OfBe.f
  obtain ⟨k, rfl⟩ : ∃ m, k = m + 1 := ⟨k - 1, by omega⟩
  rw [str_size, List.length_reverse, if_neg (by omega), show decide ((l.length : Int) > 8) = false from decide_eq_false (by omega)]
  simp only [holtref1_OfBe.j0]
  rw [if_neg (by decide)]
  have := ref_OfBe_l0 l h8 l.length k 0 (by omega) (by omega)
  simp only [Nat.sub_zero, List.drop_length, ofLe] at this
  rw [show (0 : Int) = ((0 : Nat) : Int) from rfl, this]; rfl
end Go.Proofs.YtlkjfjpcphlfeaaDoor.Base
