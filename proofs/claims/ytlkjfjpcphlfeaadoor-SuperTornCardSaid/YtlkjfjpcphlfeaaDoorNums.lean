/- What num, sum and their references reckon, as printed. -/
import Derived.Test.YtlkjfjpcphlfeaaDoorBase
import Derived.Test.YtlkjfjpcphlfeaaDoorQ2
set_option linter.unusedVariables false
set_option linter.unusedSimpArgs false
namespace Go.Proofs.YtlkjfjpcphlfeaaDoor.Base
open Go Go.RowKit Go.Proofs.YtlkjfjpcphlfeaaDoorW.PrintWords Go.Proofs.YtlkjfjpcphlfeaaDoorW.PrintLast Go.Proofs.YtlkjfjpcphlfeaaDoorW.PrintMore
open Go.Proofs.YtlkjfjpcphlfeaaDoor.Q

def ints (l : List UInt8) : List Int := l.map fun c => (c.toNat : Int)
theorem strOf_ints (l : List UInt8) : strOfNums (ints l) = str l := by
  rw [strOf]; congr 1; unfold ints; rw [List.map_map]
  conv => rhs; rw [← List.map_id l]
  apply List.map_congr_left; intro c _; simp
theorem ints_length (l : List UInt8) : (ints l).length = l.length := by simp [ints]
theorem ints_append (a b : List UInt8) : ints (a ++ b) = ints a ++ ints b := by simp [ints]
theorem pow8 (i : Nat) : (2 : Int) ^ (8 * i) = ((256 ^ i : Nat) : Int) := by
  rw [Int.natCast_pow, Int.pow_mul]; rfl
theorem pow8n (i : Nat) : (2 : Nat) ^ (8 * i) = 256 ^ i := by rw [Nat.pow_mul]
theorem shr8 (x i : Nat) (hi : i ≤ 8) : shr .u64 (x : Int) (wrap64 (8 * (i : Int))) = ((x / 256 ^ i : Nat) : Int) := by
  rw [w64 (by omega) (by omega)]
  unfold shr
  rw [show (8 * (i : Int)).toNat = 8 * i from by omega, show IntKind.u64.bits = 64 from rfl, Nat.min_eq_left (by omega), pow8]
  exact (Int.natCast_ediv x (256 ^ i)).symm
theorem byte_int (y : Nat) : ((UInt8.ofNat (y % 256)).toNat : Int) = (y : Int) % 256 := by
  simp [UInt8.toNat_ofNat']

theorem num_Le_l0 (x n : Nat) (hn : n ≤ 8) (d : Nat) : ∀ (k i : Nat), i + d = n → d < k →
    num_Le.l0 k x (ints (le i x) ++ List.replicate d 0) n i = some (str (le n x), 0) := by
  induction d with
  | zero =>
    intro k i hi hk
    obtain ⟨k, rfl⟩ : ∃ m, k = m + 1 := ⟨k - 1, by omega⟩
    simp only [num_Le.l0]
    rw [if_neg (by omega)]
    simp only [Nat.add_zero] at hi; subst hi
    rw [List.replicate_zero, List.append_nil, strOf_ints]
  | succ d ih =>
    intro k i hi hk
    obtain ⟨k, rfl⟩ : ∃ m, k = m + 1 := ⟨k - 1, by omega⟩
    simp only [num_Le.l0]
    have hl : (ints (le i x) ++ List.replicate (d + 1) 0).length = n := by simp [ints, le_length]; omega
    rw [if_pos (by omega), if_pos (by rw [w64 (by omega) (by omega)]; omega), if_pos (by omega), if_pos (by rw [hl]; omega)]
    rw [shr8 x i (by omega), w64 (x := (i : Int) + 1) (by omega) (by omega)]
    have e : (ints (le i x) ++ List.replicate (d + 1) 0).set ((i : Int).toNat) (((x / 256 ^ i : Nat) : Int) % 256) = ints (le (i + 1) x) ++ List.replicate d 0 := by
      rw [le_snoc, ints_append]
      have : (ints (le i x)).length = i := by simp [ints, le_length]
      rw [Int.toNat_natCast, List.set_append_right _ _ (show (ints (le i x)).length ≤ i by omega), this, Nat.sub_self, List.replicate_succ, List.set_cons_zero, List.append_assoc]
      congr 1
      simp only [ints, List.map_cons, List.map_nil, List.cons_append, List.nil_append]
      rw [byte_int]
    rw [e]
    exact ih k (i + 1) (by omega) (by omega)
theorem most_true (x n : Nat) (hn : n ≤ 8) (hx : x < 256 ^ n) : num_most.f x n = some true := by
  unfold num_most.f
  by_cases h : (n : Int) = 8
  · rw [if_pos h]
  · rw [if_neg h, if_pos (by rw [w64 (by omega) (by omega)]; omega), shr8 x n hn, Nat.div_eq_of_lt hx]; rfl
theorem most_false (x n : Nat) (hn : n < 8) (hx : 256 ^ n ≤ x) : num_most.f x n = some false := by
  unfold num_most.f
  rw [if_neg (by omega), if_pos (by rw [w64 (by omega) (by omega)]; omega), shr8 x n (by omega)]
  have : x / 256 ^ n ≠ 0 := by
    have := Nat.div_pos hx (Nat.pow_pos (by decide)); omega
  congr 1
  rw [beq_eq_false_iff_ne]; omega
theorem num_Le (x n k : Nat) (h1 : 1 ≤ n) (hn : n ≤ 8) (hx : x < 256 ^ n) (hk : n + 2 ≤ k) : num_Le.f k x n = some (str (le n x), 0) := by
  unfold num_Le.f
  rw [if_neg (by omega), if_neg (by omega), most_true x n hn hx]
  obtain ⟨k, rfl⟩ : ∃ m, k = m + 1 := ⟨k - 1, by omega⟩
  simp only [Option.bind_some, num_Le.j0]
  rw [if_neg (by decide), if_pos (by omega), if_pos (by omega), Int.toNat_natCast, List.length_replicate]
  exact num_Le_l0 x n hn n k 0 (by omega) (by omega)
theorem num_Le8 (x : Int) (k : Nat) (h0 : 0 ≤ x) (h1 : x < 18446744073709551616) (hk : 10 ≤ k) : num_Le.f k x 8 = some (str (le 8 x.toNat), 0) := by
  obtain ⟨n, rfl⟩ := Int.eq_ofNat_of_zero_le h0
  exact num_Le n 8 k (by decide) (by decide) (by omega) (by omega)

theorem fnv_l0 (l : List UInt8) (hl : l.length ≤ 140737488355328) (h : Nat) (hh : h < 18446744073709551616) (d : Nat) : ∀ (k i : Nat), i + d = l.length → d < k →
    sum_On.l0 k (str l) (fnv h (l.take i)) l.length i = some ((fnv h l : Nat) : Int) := by
  induction d with
  | zero =>
    intro k i hi hk
    obtain ⟨k, rfl⟩ : ∃ m, k = m + 1 := ⟨k - 1, by omega⟩
    simp only [sum_On.l0]
    rw [if_neg (by omega), List.take_of_length_le (by omega)]
  | succ d ih =>
    intro k i hi hk
    obtain ⟨k, rfl⟩ : ∃ m, k = m + 1 := ⟨k - 1, by omega⟩
    simp only [sum_On.l0]
    rw [if_pos (by omega), if_pos (by omega), if_pos (by rw [str_size]; omega), bt_str l i (by omega), fnv_step _ _ (fnv_lt _ _ hh), ← fnv_take h l i (by omega), w64 (by omega) (by omega)]
    exact ih k (i + 1) (by omega) (by omega)
def basis : Nat := 14695981039346656037
theorem sum_Of (l : List UInt8) (hl : l.length ≤ 140737488355328) (k : Nat) (hk : l.length < k) : sum_Of.f k (str l) = some ((fnv basis l : Nat) : Int) := by
  unfold sum_Of.f sum_On.f
  rw [str_size]
  have := fnv_l0 l hl basis (by decide) l.length k 0 (by omega) hk
  simp only [List.take_zero, fnv] at this
  rw [show (14695981039346656037 : Int) = ((basis : Nat) : Int) from rfl, show (0 : Int) = ((0 : Nat) : Int) from rfl, this]; rfl
end Go.Proofs.YtlkjfjpcphlfeaaDoor.Base
